/- Own texts under the law DeclStable, merged, without what it does not lean on: part 4 of 6 (the abstract machine and its proof; residual forms; contracts; the plain law). -/
import Derived.Test.YtmhnmelaodhemaaDoorDeclStablePackC
import Derived.Test.YtmhnmelaodhemaaDoorProg
import Derived.ProofKit
import Derived.LaidMore
import Derived.OpenShut
import Derived.WalkKit
import Derived.ShutString
import Derived.ChangeOld
import Derived.SizedLaws
import Derived.Shelf.Strings.OnBuilder
import Derived.KernelRfl
import Derived.IntWalk
import Derived.Lib.SmallJoins
import Derived.Laws.Bits64
set_option linter.unusedVariables false
set_option linter.unusedSimpArgs false
set_option linter.unusedSectionVars false
set_option maxRecDepth 100000
namespace Go.Proofs.YtmhnmelaodhemaaDoor
open Go Go.Proofs.Ab
namespace law12_DeclStable
abbrev id : FuncId := 3
end law12_DeclStable
namespace law12_long
abbrev id : FuncId := 5
end law12_long
namespace law12_known
abbrev id : FuncId := 6
end law12_known
namespace decl_Parse
abbrev id : FuncId := 7
end decl_Parse
namespace decl_Print
abbrev id : FuncId := 8
end decl_Print
namespace ref12_Same
abbrev id : FuncId := 9
end ref12_Same
namespace law12_back
abbrev id : FuncId := 10
end law12_back
namespace decl_Kept
abbrev id : FuncId := 12
end decl_Kept
namespace lex_Scan
abbrev id : FuncId := 13
end lex_Scan
namespace decl_Parse_1
abbrev id : FuncId := 14
end decl_Parse_1
namespace decl_reader_line
abbrev id : FuncId := 15
end decl_reader_line
namespace decl_isName
abbrev id : FuncId := 16
end decl_isName
namespace decl_writer_names
abbrev id : FuncId := 17
end decl_writer_names
namespace decl_writer_end
abbrev id : FuncId := 18
end decl_writer_end
namespace decl_writer_side
abbrev id : FuncId := 19
end decl_writer_side
namespace decl_writer_stop
abbrev id : FuncId := 20
end decl_writer_stop
namespace ref03_SameExprs
abbrev id : FuncId := 22
end ref03_SameExprs
namespace lex_reader_blank
abbrev id : FuncId := 24
end lex_reader_blank
namespace lex_reader_next
abbrev id : FuncId := 25
end lex_reader_next
namespace decl_reader_word
abbrev id : FuncId := 26
end decl_reader_word
namespace decl_reader_full
abbrev id : FuncId := 27
end decl_reader_full
namespace decl_reader_name
abbrev id : FuncId := 28
end decl_reader_name
namespace decl_reader_same
abbrev id : FuncId := 30
end decl_reader_same
namespace decl_reader_side
abbrev id : FuncId := 31
end decl_reader_side
namespace decl_reader_stop
abbrev id : FuncId := 33
end decl_reader_stop
namespace decl_reader_fail
abbrev id : FuncId := 36
end decl_reader_fail
namespace decl_reader_sign
abbrev id : FuncId := 37
end decl_reader_sign
namespace lex_IsName
abbrev id : FuncId := 38
end lex_IsName
namespace num_Text
abbrev id : FuncId := 39
end num_Text
namespace syntax_PrintExpr
abbrev id : FuncId := 40
end syntax_PrintExpr
namespace ref03_SameExpr
abbrev id : FuncId := 44
end ref03_SameExpr
namespace lex_letter
abbrev id : FuncId := 45
end lex_letter
namespace lex_reader_word
abbrev id : FuncId := 46
end lex_reader_word
namespace lex_isKey
abbrev id : FuncId := 47
end lex_isKey
namespace lex_digit
abbrev id : FuncId := 48
end lex_digit
namespace num_Parse
abbrev id : FuncId := 49
end num_Parse
namespace lex_sign
abbrev id : FuncId := 50
end lex_sign
namespace syntax_ReadExpr
abbrev id : FuncId := 51
end syntax_ReadExpr
namespace lex_inner
abbrev id : FuncId := 52
end lex_inner
namespace syntax_writer_expr
abbrev id : FuncId := 53
end syntax_writer_expr
namespace syntax_writer_done
abbrev id : FuncId := 54
end syntax_writer_done
namespace lex_Right
abbrev id : FuncId := 57
end lex_Right
namespace syntax_ReadExpr_1
abbrev id : FuncId := 58
end syntax_ReadExpr_1
namespace syntax_caught
abbrev id : FuncId := 59
end syntax_caught
namespace syntax_reader_expr
abbrev id : FuncId := 60
end syntax_reader_expr
namespace syntax_writer_need
abbrev id : FuncId := 61
end syntax_writer_need
namespace syntax_plain
abbrev id : FuncId := 62
end syntax_plain
namespace syntax_writer_put
abbrev id : FuncId := 63
end syntax_writer_put
namespace syntax_writer_name
abbrev id : FuncId := 64
end syntax_writer_name
namespace syntax_writer_operand
abbrev id : FuncId := 65
end syntax_writer_operand
namespace num_Join
abbrev id : FuncId := 66
end num_Join
namespace lex_written
abbrev id : FuncId := 69
end lex_written
namespace syntax_tokens_deep
abbrev id : FuncId := 70
end syntax_tokens_deep
namespace syntax_reader_begins
abbrev id : FuncId := 71
end syntax_reader_begins
namespace syntax_reader_bin
abbrev id : FuncId := 72
end syntax_reader_bin
namespace syntax_level
abbrev id : FuncId := 73
end syntax_level
namespace syntax_tokens_wrong
abbrev id : FuncId := 74
end syntax_tokens_wrong
namespace syntax_tokens_is
abbrev id : FuncId := 75
end syntax_tokens_is
namespace syntax_reader_unary
abbrev id : FuncId := 76
end syntax_reader_unary
namespace syntax_reader_sign
abbrev id : FuncId := 77
end syntax_reader_sign
namespace syntax_tokens_has
abbrev id : FuncId := 78
end syntax_tokens_has
namespace syntax_tokens_need
abbrev id : FuncId := 79
end syntax_tokens_need
namespace syntax_tokens_name
abbrev id : FuncId := 80
end syntax_tokens_name
abbrev T_n0 : TypeId := 0
abbrev T_int : TypeId := 3
abbrev T_uint8 : TypeId := 5
abbrev T_string : TypeId := 9
abbrev T_decl_File : TypeId := 29
abbrev T_api_Errno : TypeId := 30
abbrev T_parallaxref12_File : TypeId := 40
abbrev T_gen_Keep : TypeId := 48
abbrev T_decl_given : TypeId := 53
abbrev T_decl_reader : TypeId := 57
abbrev T_api_Token : TypeId := 59
abbrev T_decl_writer : TypeId := 62
abbrev T_api_Pair : TypeId := 64
abbrev T_decl_Keep : TypeId := 68
abbrev T_decl_Break : TypeId := 72
abbrev T_decl_Watch : TypeId := 74
abbrev T_parallaxref12_Keep : TypeId := 76
abbrev T_parallaxref12_Watch : TypeId := 77
abbrev T_parallaxref12_Break : TypeId := 78
abbrev T_lex_reader : TypeId := 83
abbrev T_api_Expr : TypeId := 99
abbrev T_syntax_writer : TypeId := 123
abbrev T_syntax_tokens : TypeId := 134
abbrev T_syntax_reader : TypeId := 137
abbrev T_syntax_given : TypeId := 148
abbrev T_L_int : TypeId := 169
def keepTab : List (List (Nat × Bool)) := [[], [], [], [], [(0, false), (6, false), (7, false), (8, false)], [], [], [(2, false), (3, false), (4, false), (6, false)], [(1, false), (4, false), (18, false), (19, false), (20, false), (61, false), (62, false), (63, false), (102, false), (103, false), (104, false), (142, false), (143, false), (144, false), (167, false), (168, false), (169, false)], [(2, false), (3, false), (5, false), (6, false), (7, false), (8, false), (9, false), (10, false)], [(1, false), (2, false), (3, false), (4, false), (5, false), (7, false)], [], [(1, false), (2, false), (5, false), (6, false), (13, false), (14, false), (15, false), (39, false), (40, false), (41, false)], [(5, false), (6, true)], [], [], [(5, false), (6, false), (7, false)], [(0, false), (1, false), (6, false), (7, false), (8, false)], [], [], [(0, false), (51, false), (52, false), (53, false)], [], [(0, false), (1, false), (5, false)], [(1, false), (2, false), (5, false), (6, false), (7, false)], [(0, false)], [], [], [], [], [], [(0, false), (2, false), (3, false), (12, false), (13, false)], [], [], [], [], [], [], [], [(0, false), (22, false), (23, false)], [(0, false), (3, false), (4, false), (5, false)], [], [], [], [], [], [], [(0, false), (3, false)], [(0, false), (5, false), (6, false)], [], [(4, false), (5, false), (6, false), (7, false), (8, false)], [(0, false), (3, false), (6, false), (7, false)], [(0, false), (1, false), (4, false), (5, false), (6, false), (7, false)], [], [], [], [], [], [(0, false), (7, false), (8, false), (9, false)], [], [], [], [], [], [], [], [], [(3, true), (6, false), (7, false), (8, false)], [], [], [], [], [], [(0, false), (1, false), (2, false), (6, false), (7, false), (8, false)], [], [], [], [(0, false), (1, false), (4, false), (11, false), (12, false)], [], [], [], []]
def glTab (g : Nat) : Option (List V) := match g with | 0 => some [.str ⟨#[112, 114, 111, 99]⟩, .str ⟨#[118, 97, 114]⟩, .str ⟨#[105, 102]⟩, .str ⟨#[101, 108, 115, 101]⟩, .str ⟨#[119, 104, 105, 108, 101]⟩, .str ⟨#[114, 101, 116, 117, 114, 110]⟩, .str ⟨#[112, 114, 105, 110, 116]⟩, .str ⟨#[114, 101, 97, 100]⟩, .str ⟨#[97, 115, 115, 101, 114, 116]⟩, .str ⟨#[105, 110, 116]⟩, .str ⟨#[98, 111, 111, 108]⟩, .str ⟨#[116, 114, 117, 101]⟩, .str ⟨#[102, 97, 108, 115, 101]⟩] | 1 => some [.str ⟨#[61, 61]⟩, .str ⟨#[33, 61]⟩, .str ⟨#[60, 61]⟩, .str ⟨#[38, 38]⟩, .str ⟨#[124, 124]⟩, .str ⟨#[40]⟩, .str ⟨#[41]⟩, .str ⟨#[123]⟩, .str ⟨#[125]⟩, .str ⟨#[91]⟩, .str ⟨#[93]⟩, .str ⟨#[44]⟩, .str ⟨#[59]⟩, .str ⟨#[61]⟩, .str ⟨#[60]⟩, .str ⟨#[33]⟩, .str ⟨#[43]⟩, .str ⟨#[45]⟩, .str ⟨#[42]⟩, .str ⟨#[47]⟩, .str ⟨#[37]⟩] | _ => none
noncomputable def Sp : Pg where
 P := Tryd.prog
 gl := glTab
 pz := fun e => ([2] : List Nat).contains e
 keep := fun f => keepTab.getD f []
 own := fun t => match t with | 45 => [0] | 62 => [0] | 57 => [2, 3, 4, 5, 6] | 123 => [0] | _ => []
 joins := fun f => match f with | 51 => [2, 3] | _ => []
 nat := fun f => match f with | 21 => some (natJoin 9) | _ => none
 pan := fun f => match f with | 15 => some 53 | 27 => some 53 | 28 => some 53 | 29 => some 53 | 30 => some 53 | 31 => some 53 | 32 => some 53 | 33 => some 53 | 34 => some 53 | 35 => some 53 | 36 => some 53 | 37 => some 53 | 60 => some 148 | 70 => some 148 | 72 => some 148 | 74 => some 148 | 76 => some 148 | 79 => some 148 | 80 => some 148 | _ => none
 mutl := fun f => match f with  | _ => []
 dfs := true
 unr := fun f h => match f, h with | 30, 4 => 3 | _, _ => 0
 pre := fun f t => match f, t with | 28, 57 => some 2 | 26, 57 => some 2 | 37, 57 => some 2 | 31, 57 => some 2 | 36, 57 => some 2 | 27, 57 => some 2 | 30, 57 => some 2 | 33, 57 => some 2 | _, _ => none
 nbx := fun f => match f with | 29 => [9] | 32 => [9] | 34 => [9] | 35 => [9] | _ => []
 inl := fun f => match f with | 29 => true | 32 => true | 34 => true | 35 => true | _ => false
end Go.Proofs.YtmhnmelaodhemaaDoor
namespace Go.Proofs.Ab
open Go Go.ChangeShapes Go.WideShapes Go.ChangeAt Go.WideMaps Go.WideElems Go.RowKit
theorem laid_strings {H : Type} {enc : TypeId × Value -> H} {P : Program} {W : World} {base : Nat} {spare : Nat -> Bool} {held : Bool} {name : String} {g t e n fuel : Nat} {cs : Array Value} {ls : List (List UInt8)} {p : List MemPlace} (hg : P.globalNamed name = some g)
  (hu : P.underlying t = some (.array n e)) (he : P.underlying e = some .string) (hc : P.cellsOf e = 1) (hv : W.var? P name = some cs)
  (hd : DataW.trod enc P W base spare held fuel t cs.toList = some (.agg (ls.map fun l => .lit (.string l)), p)) : ∀ j l, ls[j]? = some l -> W.cell? ⟨g, j, none⟩ = some (.string ⟨l.toArray⟩) := by
 intro j l hj
 obtain ⟨xs, m, _, hx, hl, hn, hel⟩ := DataW.trod_array hu hd
 simp only [Prod.mk.injEq, DataW.agg.injEq] at hx
 obtain ⟨hx, _⟩ := hx
 have hlen : ls.length = xs.length := by
  have := congrArg List.length hx
  simpa using this
 have hjl : j < ls.length := (List.getElem?_eq_some_iff.1 hj).1
 have hjx : j < xs.length := by omega
 have h1 := hel j (by omega)
 rw [List.getElem?_eq_getElem hjx, hc] at h1
 obtain ⟨s, h2, h3, _⟩ := DataW.trod_string he h1
 have h4 : (xs.map (·.1))[j]? = some (.lit (.string l)) := by
  rw [<- hx, List.getElem?_map, hj]; rfl
 rw [List.getElem?_map, List.getElem?_eq_getElem hjx, h3] at h4
 have h5 : s.data.toList = l := by simpa using h4
 have h6 : s = ⟨l.toArray⟩ := by
  cases s with
  | mk d => subst h5; simp
 have h7 := World.var?_cell hg hv j
 rw [h7]
 have h8 : cs.toList[j]? = some (.string s) := by
  have h9 : ((cs.toList.drop (j * 1)).take 1)[0]? = some (.string s) := by rw [h2]; rfl
  rw [List.getElem?_take, if_pos (by omega), List.getElem?_drop] at h9
  simpa using h9
 rw [<- h6]
 simpa using h8
theorem gl_strings {P : Program} {W : World} {g : Nat} {ls : List (List UInt8)} (h : ∀ j l, ls[j]? = some l -> W.cell? ⟨g, j, none⟩ = some (.string ⟨l.toArray⟩)) :
  ∀ j, j < (ls.map fun l => V.str ⟨l.toArray⟩).length -> ∃ x, W.cell? ⟨g, j, none⟩ = some x ∧ x.oneCell' = true ∧ PRep P W (Before W) ((ls.map fun l => V.str ⟨l.toArray⟩).getD j .undef) x := by
 intro j hj
 have hj' : j < ls.length := by simpa using hj
 refine ⟨_, h j ls[j] (List.getElem?_eq_getElem hj'), rfl, ?_⟩
 rw [List.getD_eq_getElem?_getD, List.getElem?_map, List.getElem?_eq_getElem hj']
 exact .str _
end Go.Proofs.Ab
namespace Go.Proofs.YtmhnmelaodhemaaDoor
open Go Go.Shelf Go.Proofs Go.Proofs.Ab
def joinRen : Ren := ⟨fun | 156 => 21 | 165 => 41 | 166 => 42 | 169 => 43 | 240 => 55 | 241 => 56 | 276 => 67 | 277 => 68 | n => n, fun | 31 => 43 | 9 => 9 | 3 => 3 | 4 => 4 | 0 => 0 | 20 => 20 | 72 => 104 | 76 => 107 | 70 => 101 | 37 => 102 | 75 => 106 | 127 => 126 | 164 => 142 | 5 => 5 | 80 => 87 | n => n, fun n => n⟩
theorem joinLays : Lays.n156 Tryd.prog joinRen := { mixed := by kernel_rfl, f156 := Tryd.func21.trans (congrArg some (by kernel_rfl)), f165 := Tryd.func41.trans (congrArg some (by kernel_rfl)), f166 := Tryd.func42.trans (congrArg some (by kernel_rfl)), f169 := Tryd.func43.trans (congrArg some (by kernel_rfl)), f240 := Tryd.func55.trans (congrArg some (by kernel_rfl)), f241 := Tryd.func56.trans (congrArg some (by kernel_rfl)), f276 := Tryd.func67.trans (congrArg some (by kernel_rfl)), f277 := Tryd.func68.trans (congrArg some (by kernel_rfl)), t0 := Tryd.underlying0, a0 := Tryd.isAgg0, z0 := Tryd.sizeOf0, v0 := Tryd.zeroValue0, t3 := Tryd.underlying3, a3 := Tryd.isAgg3, z3 := Tryd.sizeOf3, v3 := Tryd.zeroValue3, t4 := Tryd.underlying4, a4 := Tryd.isAgg4, z4 := Tryd.sizeOf4, v4 := Tryd.zeroValue4, t9 := Tryd.underlying9, a9 := Tryd.isAgg9, z9 := Tryd.sizeOf9, v9 := Tryd.zeroValue9, t20 := Tryd.underlying20, a20 := Tryd.isAgg20, z20 := Tryd.sizeOf20, v20 := Tryd.zeroValue20, t31 := Tryd.underlying43, a31 := Tryd.isAgg43, z31 := Tryd.sizeOf43, v31 := Tryd.zeroValue43, t37 := Tryd.underlying102, a37 := Tryd.isAgg102, z37 := Tryd.sizeOf102, v37 := Tryd.zeroValue102, t70 := Tryd.underlying101, a70 := Tryd.isAgg101, z70 := Tryd.sizeOf101, v70 := Tryd.zeroValue101, t72 := Tryd.underlying104, a72 := Tryd.isAgg104, z72 := Tryd.sizeOf104, v72 := Tryd.zeroValue104, t75 := Tryd.underlying106, a75 := Tryd.isAgg106, z75 := Tryd.sizeOf106, v75 := Tryd.zeroValue106, t76 := Tryd.underlying107, a76 := Tryd.isAgg107, z76 := Tryd.sizeOf107, v76 := Tryd.zeroValue107, t127 := Tryd.underlying126, a127 := Tryd.isAgg126, z127 := Tryd.sizeOf126, v127 := Tryd.zeroValue126, t164 := Tryd.underlying142, a164 := Tryd.isAgg142, z164 := Tryd.sizeOf142, v164 := Tryd.zeroValue142 }
theorem joinExtra : Builder.Extra Tryd.prog joinRen := { sizeBuilder := by kernel_rfl, liesBuilder := by kernel_rfl, t5 := Tryd.underlying5, a5 := Tryd.isAgg5, z5 := Tryd.sizeOf5, v5 := Tryd.zeroValue5, infoByte := by kernel_rfl, cellsByte := by kernel_rfl, sizeByte := by kernel_rfl, neB5 := by decide }
theorem natJoin_at : NatOk Sp 21 (natJoin 9) := natJoin_ok (pg := Sp) ⟨_, Tryd.func21, by kernel_rfl, by kernel_rfl⟩ (by kernel_rfl) (fun a c sep w => Any.strings_Join_none joinLays joinExtra a c sep w) (fun bk o c xs sep w h1 h2 h3 h4 h5 => Any.strings_Join joinLays joinExtra bk o c xs sep w h1 h2 h3 h4 h5)
theorem nat_is (f : FuncId) : Sp.nat f = if f = 21 then some (natJoin 9) else none := by
 by_cases hf : f = 21
 ·subst hf; rfl
 ·rw [if_neg hf]
  show (match f with | 21 => some (natJoin 9) | _ => none) = none
  split
  ·exact absurd rfl hf
  ·rfl
theorem nat_ok : ∀ f g, Sp.nat f = some g -> NatOk Sp f g := by
 intro f g h
 rw [nat_is] at h
 split at h
 ·rename_i hf
  subst hf
  cases h; exact natJoin_at
 ·cases h
end Go.Proofs.YtmhnmelaodhemaaDoor
namespace Go.Proofs.YtmhnmelaodhemaaDoor
open Go Go.Proofs.Ab
theorem kd_p1 : den Sp decl_Parse.id [.str ⟨#[112, 97, 105, 114, 32, 102, 32, 103, 32, 59, 32, 115, 97, 109, 101, 32, 102, 32, 40, 32, 120, 32, 41, 32, 103, 32, 40, 32, 121, 32, 41, 32, 59, 32, 98, 114, 101, 97, 107, 32, 108, 101, 102, 116, 32, 102, 32, 50, 32, 119, 104, 101, 110, 32, 120, 32, 60, 32, 51, 32, 59]⟩] [] none = (some ⟨(Out.ret (V.tup [(V.agg [(V.sl Tok.no T_api_Pair [[(V.str (ByteArray.mk #[102])), (V.str (ByteArray.mk #[103])), (V.str (ByteArray.mk #[])), (V.str (ByteArray.mk #[]))]]), (V.sl Tok.no T_api_Pair [[(V.str (ByteArray.mk #[102])), (V.str (ByteArray.mk #[103])), (V.str (ByteArray.mk #[120])), (V.str (ByteArray.mk #[121]))]]), (V.sl Tok.no T_decl_Keep []), (V.sl Tok.no T_decl_Break [[(V.int IntKind.i64 (0 : Int)), (V.str (ByteArray.mk #[102])), (V.int IntKind.i64 (2 : Int)), (V.sl Tok.no T_api_Expr [[(V.int IntKind.i64 (6 : Int)), (V.str (ByteArray.mk #[60])), (V.int IntKind.i64 (0 : Int)), (V.sl Tok.no T_api_Expr [[(V.int IntKind.i64 (3 : Int)), (V.str (ByteArray.mk #[120])), (V.int IntKind.i64 (0 : Int)), (V.sl Tok.no T_api_Expr [])], [(V.int IntKind.i64 (1 : Int)), (V.str (ByteArray.mk #[])), (V.int IntKind.i64 (3 : Int)), (V.sl Tok.no T_api_Expr [])]])]])]]), (V.sl Tok.no T_decl_Watch [])]), (V.int IntKind.i64 (0 : Int)), (V.int IntKind.i64 (0 : Int))])), [], none⟩) :=
 callN_le Sp 90 40 (by kernel_rfl)
theorem kd_p2 : den Sp decl_Parse.id [.str ⟨#[112, 97, 105, 114, 32, 102, 32, 59]⟩] [] none = (some ⟨(Out.ret (V.tup [(V.agg [(V.sl Tok.no T_api_Pair []), (V.sl Tok.no T_api_Pair []), (V.sl Tok.no T_decl_Keep []), (V.sl Tok.no T_decl_Break []), (V.sl Tok.no T_decl_Watch [])]), (V.int IntKind.i64 (7 : Int)), (V.int IntKind.i64 (30 : Int))])), [], none⟩) :=
 callN_le Sp 90 40 (by kernel_rfl)
theorem kd_pr : den Sp decl_Print.id [(V.agg [(V.sl Tok.no T_api_Pair [[(V.str (ByteArray.mk #[102])), (V.str (ByteArray.mk #[103])), (V.str (ByteArray.mk #[])), (V.str (ByteArray.mk #[]))]]), (V.sl Tok.no T_api_Pair [[(V.str (ByteArray.mk #[102])), (V.str (ByteArray.mk #[103])), (V.str (ByteArray.mk #[120])), (V.str (ByteArray.mk #[121]))]]), (V.sl Tok.no T_decl_Keep []), (V.sl Tok.no T_decl_Break [[(V.int IntKind.i64 (0 : Int)), (V.str (ByteArray.mk #[102])), (V.int IntKind.i64 (2 : Int)), (V.sl Tok.no T_api_Expr [[(V.int IntKind.i64 (6 : Int)), (V.str (ByteArray.mk #[60])), (V.int IntKind.i64 (0 : Int)), (V.sl Tok.no T_api_Expr [[(V.int IntKind.i64 (3 : Int)), (V.str (ByteArray.mk #[120])), (V.int IntKind.i64 (0 : Int)), (V.sl Tok.no T_api_Expr [])], [(V.int IntKind.i64 (1 : Int)), (V.str (ByteArray.mk #[])), (V.int IntKind.i64 (3 : Int)), (V.sl Tok.no T_api_Expr [])]])]])]]), (V.sl Tok.no T_decl_Watch [])])] [] none = (some ⟨(Out.ret (V.tup [(V.str (ByteArray.mk #[112, 97, 105, 114, 32, 102, 32, 103, 32, 59, 32, 115, 97, 109, 101, 32, 102, 32, 40, 32, 120, 32, 41, 32, 103, 32, 40, 32, 121, 32, 41, 32, 59, 32, 98, 114, 101, 97, 107, 32, 108, 101, 102, 116, 32, 102, 32, (UInt8.ofBitVec (BitVec.ofFin (Fin.mk 50 (Nat.mod_lt (Int.toNat (IntKind.wrap IntKind.u8 (IntKind.wrap IntKind.u64 ((48 : Int) + (Int.tmod (IntKind.wrap IntKind.u64 (2 : Int)) (10 : Int)))))) (BitVec.ofNat._proof_1 8))))), 32, 119, 104, 101, 110, 32, (UInt8.ofBitVec (BitVec.ofFin (Fin.mk 120 (Nat.mod_lt (Int.toNat (((UInt8.toNat 120) : Nat) : Int)) (BitVec.ofNat._proof_1 8))))), (UInt8.ofBitVec (BitVec.ofFin (Fin.mk 32 (Nat.mod_lt (Int.toNat (32 : Int)) (BitVec.ofNat._proof_1 8))))), (UInt8.ofBitVec (BitVec.ofFin (Fin.mk 60 (Nat.mod_lt (Int.toNat (((UInt8.toNat 60) : Nat) : Int)) (BitVec.ofNat._proof_1 8))))), (UInt8.ofBitVec (BitVec.ofFin (Fin.mk 32 (Nat.mod_lt (Int.toNat (32 : Int)) (BitVec.ofNat._proof_1 8))))), (UInt8.ofBitVec (BitVec.ofFin (Fin.mk 51 (Nat.mod_lt (Int.toNat (((UInt8.toNat (UInt8.ofNat (Int.toNat (IntKind.wrap IntKind.u8 (IntKind.wrap IntKind.u64 ((48 : Int) + (Int.tmod (IntKind.wrap IntKind.u64 (3 : Int)) (10 : Int)))))))) : Nat) : Int)) (BitVec.ofNat._proof_1 8))))), 32, 59])), (V.int IntKind.i64 (0 : Int))])), [], none⟩) :=
 callN_le Sp 90 40 (by kernel_rfl)
theorem kd_k : den Sp decl_Kept.id [(V.agg [(V.sl Tok.no T_api_Pair [[(V.str (ByteArray.mk #[102])), (V.str (ByteArray.mk #[103])), (V.str (ByteArray.mk #[])), (V.str (ByteArray.mk #[]))]]), (V.sl Tok.no T_api_Pair [[(V.str (ByteArray.mk #[102])), (V.str (ByteArray.mk #[103])), (V.str (ByteArray.mk #[120])), (V.str (ByteArray.mk #[121]))]]), (V.sl Tok.no T_decl_Keep []), (V.sl Tok.no T_decl_Break [[(V.int IntKind.i64 (0 : Int)), (V.str (ByteArray.mk #[102])), (V.int IntKind.i64 (2 : Int)), (V.sl Tok.no T_api_Expr [[(V.int IntKind.i64 (6 : Int)), (V.str (ByteArray.mk #[60])), (V.int IntKind.i64 (0 : Int)), (V.sl Tok.no T_api_Expr [[(V.int IntKind.i64 (3 : Int)), (V.str (ByteArray.mk #[120])), (V.int IntKind.i64 (0 : Int)), (V.sl Tok.no T_api_Expr [])], [(V.int IntKind.i64 (1 : Int)), (V.str (ByteArray.mk #[])), (V.int IntKind.i64 (3 : Int)), (V.sl Tok.no T_api_Expr [])]])]])]]), (V.sl Tok.no T_decl_Watch [])]), .int .i64 1] [] none = (some ⟨(Out.ret (V.sl Tok.no T_gen_Keep [[(V.str (ByteArray.mk #[103])), (V.str (ByteArray.mk #[121]))]])), [], none⟩) :=
 callN_le Sp 90 40 (by kernel_rfl)
end Go.Proofs.YtmhnmelaodhemaaDoor
namespace Go.Proofs.Ab
open Go
section
variable {R : Type}
@[simp] theorem onRet_ret (v : V) (bl : List Blk) (pn : Option (Option V)) (k : V -> Option R) : Res.onRet ⟨.ret v, bl, pn⟩ k = k v := rfl
@[simp] theorem bl_mk (o : Out) (bl : List Blk) (pn : Option (Option V)) : Res.bl ⟨o, bl, pn⟩ = bl := rfl
@[simp] theorem onOut_ret (v : V) (bl : List Blk) (pn : Option (Option V)) (k kp : V -> Option R) : Res.onOut ⟨.ret v, bl, pn⟩ k kp = k v := rfl
@[simp] theorem onOut_pan (v : V) (bl : List Blk) (pn : Option (Option V)) (k kp : V -> Option R) : Res.onOut ⟨.pan v, bl, pn⟩ k kp = kp v := rfl
@[simp] theorem onPn_none (o : Out) (bl : List Blk) (k0 : Option R) (k1 : V -> Option R) : Res.onPn ⟨o, bl, some none⟩ k0 k1 = k0 := rfl
@[simp] theorem onPn_some (o : Out) (bl : List Blk) (v : V) (k0 : Option R) (k1 : V -> Option R) : Res.onPn ⟨o, bl, some (some v)⟩ k0 k1 = k1 v := rfl
@[simp] theorem asBool_bool (b : Bool) (k : Bool -> Option R) : V.asBool (.bool b) k = k b := rfl
@[simp] theorem asStr_str (s : ByteArray) (k : ByteArray -> Option R) : V.asStr (.str s) k = k s := rfl
@[simp] theorem asInt_int (kd : IntKind) (n : Int) (k : Int -> Option R) : V.asInt (.int kd n) kd k = k n := by simp [V.asInt]
@[simp] theorem asSl_sl (t : Tok) (e : TypeId) (es : List (List V)) (k : List (List V) -> Option R) : V.asSl (.sl t e es) e k = k es := by simp [V.asSl]
@[simp] theorem asSlR_sl (p : Nat) (e : TypeId) (es : List (List V)) (k : List (List V) -> Option R) : V.asSlR (.sl (.row p) e es) p e k = k es := by simp [V.asSlR]
@[simp] theorem asIface_iface (t : TypeId) (v : V) (k : V -> Option R) : V.asIface (.iface t v) t k = k v := by simp [V.asIface]
@[simp] theorem asTup_tup (vs : List V) (n : Nat) (h : vs.length = n) (k : (Nat -> V) -> Option R) : V.asTup (.tup vs) n k = k (fun j => vs.getD j .undef) := by simp [V.asTup, h]
@[simp] theorem asAgg_agg (vs : List V) (n : Nat) (h : vs.length = n) (k : (Nat -> V) -> Option R) : V.asAgg (.agg vs) n k = k (fun j => vs.getD j .undef) := by simp [V.asAgg, h]
@[simp] theorem asTup_0 (k : (Nat -> V) -> Option R) : V.asTup (.tup []) 0 k = k (fun j => List.getD [] j .undef) := rfl
@[simp] theorem asAgg_0 (k : (Nat -> V) -> Option R) : V.asAgg (.agg []) 0 k = k (fun j => List.getD [] j .undef) := rfl
@[simp] theorem asCells_0 (t : TypeId) (k : (Nat -> V) -> Option R) : Blk.asCells (.cells t [] false) t 0 k = k (fun j => List.getD [] j .undef) := by simp [Blk.asCells]
@[simp] theorem asTup_1 (x0 : V) (k : (Nat -> V) -> Option R) : V.asTup (.tup [x0]) 1 k = k (fun j => List.getD [x0] j .undef) := rfl
@[simp] theorem asAgg_1 (x0 : V) (k : (Nat -> V) -> Option R) : V.asAgg (.agg [x0]) 1 k = k (fun j => List.getD [x0] j .undef) := rfl
@[simp] theorem asCells_1 (t : TypeId) (x0 : V) (k : (Nat -> V) -> Option R) : Blk.asCells (.cells t [x0] false) t 1 k = k (fun j => List.getD [x0] j .undef) := by simp [Blk.asCells]
@[simp] theorem asTup_2 (x0 x1 : V) (k : (Nat -> V) -> Option R) : V.asTup (.tup [x0, x1]) 2 k = k (fun j => List.getD [x0, x1] j .undef) := rfl
@[simp] theorem asAgg_2 (x0 x1 : V) (k : (Nat -> V) -> Option R) : V.asAgg (.agg [x0, x1]) 2 k = k (fun j => List.getD [x0, x1] j .undef) := rfl
@[simp] theorem asCells_2 (t : TypeId) (x0 x1 : V) (k : (Nat -> V) -> Option R) : Blk.asCells (.cells t [x0, x1] false) t 2 k = k (fun j => List.getD [x0, x1] j .undef) := by simp [Blk.asCells]
@[simp] theorem asTup_3 (x0 x1 x2 : V) (k : (Nat -> V) -> Option R) : V.asTup (.tup [x0, x1, x2]) 3 k = k (fun j => List.getD [x0, x1, x2] j .undef) := rfl
@[simp] theorem asAgg_3 (x0 x1 x2 : V) (k : (Nat -> V) -> Option R) : V.asAgg (.agg [x0, x1, x2]) 3 k = k (fun j => List.getD [x0, x1, x2] j .undef) := rfl
@[simp] theorem asCells_3 (t : TypeId) (x0 x1 x2 : V) (k : (Nat -> V) -> Option R) : Blk.asCells (.cells t [x0, x1, x2] false) t 3 k = k (fun j => List.getD [x0, x1, x2] j .undef) := by simp [Blk.asCells]
@[simp] theorem asTup_4 (x0 x1 x2 x3 : V) (k : (Nat -> V) -> Option R) : V.asTup (.tup [x0, x1, x2, x3]) 4 k = k (fun j => List.getD [x0, x1, x2, x3] j .undef) := rfl
@[simp] theorem asAgg_4 (x0 x1 x2 x3 : V) (k : (Nat -> V) -> Option R) : V.asAgg (.agg [x0, x1, x2, x3]) 4 k = k (fun j => List.getD [x0, x1, x2, x3] j .undef) := rfl
@[simp] theorem asCells_4 (t : TypeId) (x0 x1 x2 x3 : V) (k : (Nat -> V) -> Option R) : Blk.asCells (.cells t [x0, x1, x2, x3] false) t 4 k = k (fun j => List.getD [x0, x1, x2, x3] j .undef) := by simp [Blk.asCells]
@[simp] theorem asTup_5 (x0 x1 x2 x3 x4 : V) (k : (Nat -> V) -> Option R) : V.asTup (.tup [x0, x1, x2, x3, x4]) 5 k = k (fun j => List.getD [x0, x1, x2, x3, x4] j .undef) := rfl
@[simp] theorem asAgg_5 (x0 x1 x2 x3 x4 : V) (k : (Nat -> V) -> Option R) : V.asAgg (.agg [x0, x1, x2, x3, x4]) 5 k = k (fun j => List.getD [x0, x1, x2, x3, x4] j .undef) := rfl
@[simp] theorem asCells_5 (t : TypeId) (x0 x1 x2 x3 x4 : V) (k : (Nat -> V) -> Option R) : Blk.asCells (.cells t [x0, x1, x2, x3, x4] false) t 5 k = k (fun j => List.getD [x0, x1, x2, x3, x4] j .undef) := by simp [Blk.asCells]
@[simp] theorem asTup_6 (x0 x1 x2 x3 x4 x5 : V) (k : (Nat -> V) -> Option R) : V.asTup (.tup [x0, x1, x2, x3, x4, x5]) 6 k = k (fun j => List.getD [x0, x1, x2, x3, x4, x5] j .undef) := rfl
@[simp] theorem asAgg_6 (x0 x1 x2 x3 x4 x5 : V) (k : (Nat -> V) -> Option R) : V.asAgg (.agg [x0, x1, x2, x3, x4, x5]) 6 k = k (fun j => List.getD [x0, x1, x2, x3, x4, x5] j .undef) := rfl
@[simp] theorem asCells_6 (t : TypeId) (x0 x1 x2 x3 x4 x5 : V) (k : (Nat -> V) -> Option R) : Blk.asCells (.cells t [x0, x1, x2, x3, x4, x5] false) t 6 k = k (fun j => List.getD [x0, x1, x2, x3, x4, x5] j .undef) := by simp [Blk.asCells]
@[simp] theorem asTup_7 (x0 x1 x2 x3 x4 x5 x6 : V) (k : (Nat -> V) -> Option R) : V.asTup (.tup [x0, x1, x2, x3, x4, x5, x6]) 7 k = k (fun j => List.getD [x0, x1, x2, x3, x4, x5, x6] j .undef) := rfl
@[simp] theorem asAgg_7 (x0 x1 x2 x3 x4 x5 x6 : V) (k : (Nat -> V) -> Option R) : V.asAgg (.agg [x0, x1, x2, x3, x4, x5, x6]) 7 k = k (fun j => List.getD [x0, x1, x2, x3, x4, x5, x6] j .undef) := rfl
@[simp] theorem asCells_7 (t : TypeId) (x0 x1 x2 x3 x4 x5 x6 : V) (k : (Nat -> V) -> Option R) : Blk.asCells (.cells t [x0, x1, x2, x3, x4, x5, x6] false) t 7 k = k (fun j => List.getD [x0, x1, x2, x3, x4, x5, x6] j .undef) := by simp [Blk.asCells]
@[simp] theorem asArr_arr (i : Nat) (e : TypeId) (k : Option R) : V.asArr (.arr i e) i e k = k := by simp [V.asArr]
@[simp] theorem asCells_cells (t : TypeId) (cs : List V) (n : Nat) (h : cs.length = n) (k : (Nat -> V) -> Option R) : Blk.asCells (.cells t cs false) t n k = k (fun j => cs.getD j .undef) := by simp [Blk.asCells, h]
@[simp] theorem asVec_vec (t : TypeId) (es : List (List V)) (n : Nat) (h : es.length = n) (k : List (List V) -> Option R) : Blk.asVec (.vec t es false) t n k = k es := by simp [Blk.asVec, h]
end
theorem wrap_in {n : Int} (h0 : -9223372036854775808 <= n) (h1 : n <= 9223372036854775807) : IntKind.i64.wrap n = n := IntWalk.i64_in n ⟨h0, h1⟩
theorem wrap_nat {i : Nat} (h : i < 4611686018427387904) : IntKind.i64.wrap ((i : Int) + 1) = ((i + 1 : Nat) : Int) := by
 rw [wrap_in (by omega) (by omega)]; omega
theorem down {p : Nat -> Prop} {n : Nat} (h0 : p n) (hs : ∀ i, i < n -> p (i + 1) -> p i) : ∀ i, i <= n -> p i := by
 intro i hi
 obtain ⟨k, rfl⟩ : ∃ k, n = i + k := ⟨n - i, by omega⟩
 induction k generalizing i with
 | zero => exact h0
 | succ k ih =>
  refine hs i (by omega) (ih (i + 1) (by rw [show i + 1 + k = i + (k + 1) by omega]; exact h0) (fun j hj => hs j (by omega)) (by omega))
def allF (f : Nat -> Bool) (n i : Nat) : Bool := (List.range' i (n - i)).all f
theorem allF_end (f : Nat -> Bool) (n : Nat) : allF f n n = true := by simp [allF]
theorem allF_step {f : Nat -> Bool} {n i : Nat} (h : i < n) : allF f n i = (f i && allF f n (i + 1)) := by
 unfold allF
 rw [show n - i = (n - (i + 1)) + 1 by omega, List.range'_succ, List.all_cons]
theorem allF_iff {f : Nat -> Bool} {n i : Nat} : allF f n i = true ↔ ∀ j, i <= j -> j < n -> f j = true := by
 unfold allF
 rw [List.all_eq_true]
 constructor
 ·intro h j h1 h2; exact h j (by rw [List.mem_range'_1]; omega)
 ·intro h j hj; rw [List.mem_range'_1] at hj; exact h j hj.1 (by omega)
end Go.Proofs.Ab
namespace Go.Proofs.Px
open Go Go.Proofs.Ab
def letter (c : Int) : Bool := (decide (65 <= c) && decide (c <= 90)) || (decide (97 <= c) && decide (c <= 122))
def digit (c : Int) : Bool := decide (48 <= c) && decide (c <= 57)
def inner (c : Int) : Bool := letter c || digit c || c == 95
def keys : List ByteArray := [⟨#[112, 114, 111, 99]⟩, ⟨#[118, 97, 114]⟩, ⟨#[105, 102]⟩, ⟨#[101, 108, 115, 101]⟩, ⟨#[119, 104, 105, 108, 101]⟩, ⟨#[114, 101, 116, 117, 114, 110]⟩, ⟨#[112, 114, 105, 110, 116]⟩, ⟨#[114, 101, 97, 100]⟩, ⟨#[97, 115, 115, 101, 114, 116]⟩, ⟨#[105, 110, 116]⟩, ⟨#[98, 111, 111, 108]⟩, ⟨#[116, 114, 117, 101]⟩, ⟨#[102, 97, 108, 115, 101]⟩]
def isIn (s : ByteArray) (l : List ByteArray) : Bool := l.any fun k => decide (k = s)
def isKey (s : ByteArray) : Bool := isIn s keys
def isName (s : ByteArray) : Bool := decide (0 < s.size) && decide (s.size <= 40) && letter (byteAt s 0) && !isKey s && allF (fun i => inner (byteAt s i)) s.size 0
theorem isIn_step {s : ByteArray} {l : List ByteArray} {i : Nat} (h : i < l.length) : isIn s (l.drop i) = (decide (l[i] = s) || isIn s (l.drop (i + 1))) := by
 unfold isIn
 rw [List.drop_eq_getElem_cons h, List.any_cons]
theorem empty_iff (s : ByteArray) : s = ⟨#[]⟩ ↔ s.size = 0 := by
 constructor
 ·rintro rfl; rfl
 ·intro h
  cases s with
  | mk d =>
   have : d = #[] := Array.size_eq_zero_iff.1 h
   rw [this]
end Go.Proofs.Px
namespace Go.Proofs.Px
open Go Go.Proofs.Ab
def B (l : List UInt8) : ByteArray := ⟨l.toArray⟩
theorem B_of (s : ByteArray) : s = B s.data.toList := by cases s; simp [B]
@[simp] theorem B_size (l : List UInt8) : (B l).size = l.length := by simp [B, ByteArray.size]
theorem B_inj {a b : List UInt8} : B a = B b ↔ a = b := by
 constructor
 ·intro h
  have : (B a).data.toList = (B b).data.toList := by rw [h]
  simpa [B] using this
 ·rintro rfl; rfl
@[simp] theorem B_dec (a b : List UInt8) : decide (B a = B b) = decide (a = b) := by
 by_cases h : a = b
 ·simp [h]
 ·simp [h, B_inj]
@[simp] theorem B_byte (l : List UInt8) (i : Nat) : byteAt (B l) i = ((l.getD i 0).toNat : Int) := by simp [byteAt, B]
@[simp] theorem B_extract (l : List UInt8) (i j : Nat) : (B l).extract i j = B ((l.drop i).take (j - i)) := by
 have h : ((B l).extract i j).data = (B ((l.drop i).take (j - i))).data := by
  rw [ByteArray.data_extract]
  apply Array.ext'
  simp [B, List.extract]
 cases h1 : (B l).extract i j
 cases h2 : B ((l.drop i).take (j - i))
 rw [h1, h2] at h
 simp at h
 rw [h]
@[simp] theorem B_append (a b : List UInt8) : B a ++ B b = B (a ++ b) := by
 have h : (B a ++ B b).data = (B (a ++ b)).data := by
  rw [ByteArray.data_append]
  simp [B]
 cases h1 : B a ++ B b
 cases h2 : B (a ++ b)
 rw [h1, h2] at h
 simp at h
 rw [h]
@[simp] theorem B_nil : (ByteArray.mk #[]) = B [] := rfl
def bv (l : List UInt8) : List (List V) := l.map fun b => [.int .u8 (b.toNat : Int)]
@[simp] theorem ofBytes_B (l : List UInt8) : ofBytes (B l) = bv l := by simp [ofBytes, B, bv]
@[simp] theorem bytesOk_bv (l : List UInt8) : bytesOk (bv l) = true := by
 induction l with
 | nil => rfl
 | cons a l ih => exact ih
@[simp] theorem toBytes_bv (l : List UInt8) : toBytes (bv l) = l := by
 induction l with
 | nil => rfl
 | cons a l ih =>
  show UInt8.ofNat (Int.toNat (a.toNat : Int)) :: toBytes (bv l) = a :: l
  rw [ih]; simp
@[simp] theorem bv_length (l : List UInt8) : (bv l).length = l.length := by simp [bv]
@[simp] theorem bv_append (a b : List UInt8) : bv a ++ bv b = bv (a ++ b) := by simp [bv]
theorem drop_cons {l : List UInt8} {i : Nat} (h : i < l.length) : l.drop i = l.getD i 0 :: l.drop (i + 1) := by
 rw [List.drop_eq_getElem_cons h, List.getD_eq_getElem?_getD, List.getElem?_eq_getElem h]; rfl
theorem byte_eq (a : UInt8) (n : Nat) (hn : n < 256) : ((a.toNat : Int) == (n : Int)) = (a == UInt8.ofNat n) := by
 have h : a = UInt8.ofNat n ↔ a.toNat = n := by
  constructor
  ·rintro rfl; simp; omega
  ·intro h; apply UInt8.toNat_inj.1; simp; omega
 by_cases h1 : a = UInt8.ofNat n
 ·rw [beq_iff_eq.2 h1]
  have := h.1 h1
  simp [this]
 ·have h2 : ¬ a.toNat = n := fun h3 => h1 (h.2 h3)
  have h3 : ¬ ((a.toNat : Int) = (n : Int)) := by omega
  rw [beq_eq_false_iff_ne.2 h1, beq_eq_false_iff_ne.2 h3]
end Go.Proofs.Px
namespace Go.Proofs.Px
open Go Go.Proofs.Ab Go.ChangeShapes Go.WideShapes Go.ChangeAt Go.WideMaps Go.WideElems Go.RowKit
def ZTok (z : Bool) (tok : Tok) (es : List (List V)) : Prop := if z = true then (tok = .nil ∧ es = []) ∨ tok = .nn else tok = .no
inductive Fits (P : Program) (pz : TypeId -> Bool) : TypeId -> List V -> Prop where
 | int {t : TypeId} {k : IntKind} {n : Int} {cs : List V} (h : P.underlying t = some (.int k)) (hw : (Lit.int k n).wf = true) (e : cs = [.int k n]) : Fits P pz t cs
 | bool {t : TypeId} {b : Bool} {cs : List V} (h : P.underlying t = some .bool) (e : cs = [.bool b]) : Fits P pz t cs
 | str {t : TypeId} {s : ByteArray} {cs : List V} (h : P.underlying t = some .string) (hw : s.size <= 140737488351232) (e : cs = [.str s]) : Fits P pz t cs
 | sl {t el : TypeId} {tok : Tok} {es : List (List V)} {cs : List V} (h : P.underlying t = some (.slice el)) (ht : ZTok (pz el) tok es) (hl : es.length * P.bytesOf el <= 140737488351232) (hm : es.length <= maxLen) (he : ∀ i, i < es.length -> Fits P pz el (es.getD i [])) (e : cs = [.sl tok el es]) : Fits P pz t cs
 | st {t : TypeId} {fs : Array Field} {ps : List (List V)} {cs : List V} (h : P.underlying t = some (.struct fs)) (hl : ps.length = fs.size) (he : ∀ (i : Nat) (f : Field), fs[i]? = some f -> Fits P pz f.type (ps.getD i [])) (e : cs = ps.flatten) : Fits P pz t cs
def Rep (P : Program) (W : World) (vs : List V) (cs : List Value) : Prop :=
 vs.length = cs.length ∧ ∀ j, j < cs.length -> PRep P W (Before W) (vs.getD j .undef) (cs.getD j Go.undef) ∧ (cs.getD j Go.undef).oneCell' = true
theorem Rep.one {P : Program} {W : World} {v : V} {x : Value} (h : PRep P W (Before W) v x) (ho : x.oneCell' = true) : Rep P W [v] [x] := by
 refine ⟨rfl, fun j hj => ?_⟩
 obtain rfl : j = 0 := by simp at hj; exact hj
 exact ⟨h, ho⟩
theorem Rep.app {P : Program} {W : World} {vs us : List V} {cs ds : List Value} (h : Rep P W vs cs) (g : Rep P W us ds) : Rep P W (vs ++ us) (cs ++ ds) := by
 refine ⟨by simp [h.1, g.1], fun j hj => ?_⟩
 rw [List.getD_eq_getElem?_getD, List.getD_eq_getElem?_getD, List.getElem?_append, List.getElem?_append, h.1]
 split
 ·rename_i hlt
  simpa [List.getD_eq_getElem?_getD] using h.2 j hlt
 ·rename_i hge
  have := g.2 (j - cs.length) (by rw [List.length_append] at hj; omega)
  simpa [List.getD_eq_getElem?_getD] using this
theorem Rep.nil {P : Program} {W : World} : Rep P W [] [] := ⟨rfl, fun j hj => by cases hj⟩
end Go.Proofs.Px
namespace Go.Proofs.Px
open Go Go.Proofs.Ab
def dgt (u : Nat) : UInt8 := UInt8.ofNat (48 + u % 10)
theorem dgt_nat (u : Nat) : (dgt u).toNat = 48 + u % 10 := by
 unfold dgt
 rw [UInt8.toNat_ofNat']; omega
def decGo : Nat -> Nat -> List UInt8 -> List UInt8
 | 0, _, acc => acc
 | f + 1, u, acc => if u / 10 = 0 then dgt u :: acc else decGo f (u / 10) (dgt u :: acc)
def dec (u : Nat) : List UInt8 := decGo 20 u []
def decs (n : Int) : List UInt8 := if n < 0 then 45 :: dec n.natAbs else dec n.natAbs
theorem decGo_more (f : Nat) : ∀ (g u : Nat) (acc : List UInt8), u < 10 ^ f -> f <= g -> 0 < f -> decGo g u acc = decGo f u acc := by
 induction f with
 | zero => intro _ _ _ _ _ h; omega
 | succ f ih =>
  intro g u acc h hg _
  obtain ⟨g, rfl⟩ : ∃ k, g = k + 1 := ⟨g - 1, by omega⟩
  unfold decGo
  by_cases h0 : u / 10 = 0
  ·rw [if_pos h0, if_pos h0]
  ·rw [if_neg h0, if_neg h0]
   have h1 : u / 10 < 10 ^ f := by
    rw [Nat.pow_succ] at h
    omega
   refine ih g _ _ h1 (by omega) ?_
   rcases Nat.eq_zero_or_pos f with rfl | h2
   ·simp at h1; omega
   ·exact h2
theorem dec_of (f u : Nat) (h : u < 10 ^ f) (hf : 0 < f) (hf2 : f <= 20) : dec u = decGo f u [] := decGo_more f 20 u [] h hf2 hf
theorem decGo_len : ∀ (f u : Nat) (acc : List UInt8), (decGo f u acc).length <= f + acc.length
 | 0, _, acc => by simp [decGo]
 | f + 1, u, acc => by
  unfold decGo
  split
  ·simp; omega
  ·have := decGo_len f (u / 10) (dgt u :: acc)
   simp at this; omega
theorem dec_len20 (u : Nat) : (dec u).length <= 20 := by
 have := decGo_len 20 u []
 exact this
theorem decs_len (n : Int) : (decs n).length <= 21 := by
 unfold decs
 have := dec_len20 n.natAbs
 split
 ·simp; omega
 ·omega
theorem decGo_digits : ∀ (f u : Nat) (acc : List UInt8), (∀ c ∈ acc, 48 <= c.toNat ∧ c.toNat <= 57) -> ∀ c ∈ decGo f u acc, 48 <= c.toNat ∧ c.toNat <= 57
 | 0, u, acc, h => h
 | f + 1, u, acc, h => by
  have h1 : ∀ c ∈ dgt u :: acc, 48 <= c.toNat ∧ c.toNat <= 57 := by
   intro c hc
   rcases List.mem_cons.1 hc with rfl | hc
   ·rw [dgt_nat]; omega
   ·exact h c hc
  unfold decGo
  split
  ·exact h1
  ·exact decGo_digits f (u / 10) _ h1
theorem dec_digits (u : Nat) : ∀ c ∈ dec u, 48 <= c.toNat ∧ c.toNat <= 57 := decGo_digits 20 u [] (fun c h => by cases h)
def worth (u : Nat) (l : List UInt8) : Nat := l.foldl (fun a c => a * 10 + (c.toNat - 48)) u
theorem worth_cons (u : Nat) (c : UInt8) (l : List UInt8) : worth u (c :: l) = worth (u * 10 + (c.toNat - 48)) l := by
 unfold worth
 exact List.foldl_cons ..
theorem decGo_worth (f : Nat) : ∀ (u : Nat) (acc : List UInt8), u < 10 ^ f -> 0 < f -> worth 0 (decGo f u acc) = worth u acc := by
 induction f with
 | zero => intro _ _ _ h; omega
 | succ f ih =>
  intro u acc h _
  have hd : (dgt u).toNat - 48 = u % 10 := by rw [dgt_nat]; omega
  unfold decGo
  by_cases h0 : u / 10 = 0
  ·rw [if_pos h0, worth_cons, hd, show 0 * 10 + u % 10 = u by omega]
  ·rw [if_neg h0]
   have h1 : u / 10 < 10 ^ f := by
    rw [Nat.pow_succ] at h
    omega
   rw [ih (u / 10) _ h1 (by
    rcases Nat.eq_zero_or_pos f with rfl | h2
    ·simp at h1; omega
    ·exact h2), worth_cons, hd, show u / 10 * 10 + u % 10 = u by omega]
theorem worth_nil (u : Nat) : worth u [] = u := by
 unfold worth
 exact List.foldl_nil
theorem dec_worth (u : Nat) (h : u < 10 ^ 20) : worth 0 (dec u) = u := by
 unfold dec
 rw [decGo_worth 20 u [] h (Nat.zero_lt_succ _), worth_nil]
theorem decGo_ne : ∀ (f u : Nat) (acc : List UInt8), 0 < f -> decGo f u acc ≠ []
 | 0, _, _, h => by omega
 | f + 1, u, acc, _ => by
  unfold decGo
  split
  ·simp
  ·rcases Nat.eq_zero_or_pos f with rfl | h
   ·simp [decGo]
   ·exact decGo_ne f _ _ h
theorem decGo_head (f : Nat) : ∀ (u : Nat) (acc : List UInt8), u < 10 ^ f -> 0 < f -> 0 < u -> (decGo f u acc).getD 0 0 ≠ 48 := by
 induction f with
 | zero => intro _ _ _ h; omega
 | succ f ih =>
  intro u acc h _ hu
  unfold decGo
  by_cases h0 : u / 10 = 0
  ·rw [if_pos h0]
   intro h2
   have h3 : (dgt u).toNat = (48 : UInt8).toNat := congrArg UInt8.toNat h2
   rw [dgt_nat] at h3
   have : (48 : UInt8).toNat = 48 := rfl
   omega
  ·rw [if_neg h0]
   have h1 : u / 10 < 10 ^ f := by
    rw [Nat.pow_succ] at h
    omega
   refine ih (u / 10) _ h1 ?_ (by omega)
   rcases Nat.eq_zero_or_pos f with rfl | h2
   ·simp at h1; omega
   ·exact h2
@[simp] theorem int_beq (a b : Int) : (a == b) = decide (a = b) := by by_cases h : a = b <;> simp [h]
@[simp] theorem int_bne (a b : Int) : (a != b) = !decide (a = b) := by by_cases h : a = b <;> simp [bne, h]
@[simp] theorem nat_neg_not (n : Nat) : (((n : Nat) : Int) < 0) = False := by simp
@[simp] theorem mk_B (l : List UInt8) : ByteArray.mk l.toArray = B l := rfl
@[simp] theorem B_eq (a b : List UInt8) : (B a = B b) = (a = b) := propext B_inj
def tkz (z : Bool) : Tok := if z then .nil else .nn
@[simp] theorem tkz_true : tkz true = .nil := rfl
@[simp] theorem tkz_false : tkz false = .nn := rfl
@[simp] theorem tokOf_tkz (z : Bool) (es : List (List V)) : tokOf true (tkz z) es = tkz z := by cases z <;> rfl
@[simp] theorem tokOf_nil (es : List (List V)) : tokOf true .nil es = .nil := rfl
@[simp] theorem tokOf_nn (es : List (List V)) : tokOf true .nn es = .nn := rfl
@[simp] theorem asSlN_nil {R : Type} (e : TypeId) (es : List (List V)) (k : Bool -> List (List V) -> Option R) : V.asSlN (.sl .nil e es) e k = k true es := by simp [V.asSlN]
@[simp] theorem asSlN_nn {R : Type} (e : TypeId) (es : List (List V)) (k : Bool -> List (List V) -> Option R) : V.asSlN (.sl .nn e es) e k = k false es := by simp [V.asSlN]
@[simp] theorem asSlN_tkz {R : Type} (z : Bool) (e : TypeId) (es : List (List V)) (k : Bool -> List (List V) -> Option R) : V.asSlN (.sl (tkz z) e es) e k = k z es := by cases z <;> simp
def sv (l : List (List UInt8)) : List (List V) := l.map fun s => [.str (B s)]
def iv (l : List Int) : List (List V) := l.map fun n => [.int .i64 n]
@[simp] theorem sv_len (l : List (List UInt8)) : (sv l).length = l.length := by simp [sv]
@[simp] theorem iv_len (l : List Int) : (iv l).length = l.length := by simp [iv]
@[simp] theorem sv_nil : sv [] = [] := rfl
@[simp] theorem iv_nil : iv [] = [] := rfl
theorem sv_at (l : List (List UInt8)) (i : Nat) (h : i < l.length) : List.getD (List.getD (sv l) i []) 0 V.undef = .str (B l[i]) := by
 unfold sv
 rw [List.getD_eq_getElem?_getD (l := List.map _ _), List.getElem?_map, List.getElem?_eq_getElem h]; rfl
theorem map_at {α : Type} (f : α -> List V) (l : List α) (i : Nat) (h : i < l.length) : List.getD (l.map f) i [] = f l[i] := by
 rw [List.getD_eq_getElem?_getD, List.getElem?_map, List.getElem?_eq_getElem h]; rfl
@[simp] theorem iv_app (a b : List Int) : iv a ++ iv b = iv (a ++ b) := by simp [iv]
@[simp] theorem sv_app (a b : List (List UInt8)) : sv a ++ sv b = sv (a ++ b) := by simp [sv]
theorem sv_one (s : List UInt8) : [[V.str (B s)]] = sv [s] := rfl
theorem in_row {i n : Nat} (h : i < n) : (0 : Int) <= (i : Int) ∧ (i : Int) < ((n : Nat) : Int) := by omega
end Go.Proofs.Px
namespace Go.Proofs.YtmhnmelaodhemaaDoor
open Go Go.Proofs.Ab
namespace law12_known
theorem eq : den Sp id [] [] none =
  (den Sp decl_Parse.id [V.str (ByteArray.mk #[112, 97, 105, 114, 32, 102, 32, 103, 32, 59, 32, 115, 97, 109, 101, 32, 102, 32, 40, 32, 120, 32, 41, 32, 103, 32, 40, 32, 121, 32, 41, 32, 59, 32, 98, 114, 101, 97, 107, 32, 108, 101, 102, 116, 32, 102, 32, 50, 32, 119, 104, 101, 110, 32, 120, 32, 60, 32, 51, 32, 59])] [] none).bind (fun r2 => Res.onRet r2 (fun v3 => V.asTup v3 3 (fun rd4 => V.asAgg (rd4 0) 5 (fun rd5 => V.asSl (rd5 0) T_api_Pair (fun es6 => V.asSl (rd5 1) T_api_Pair (fun es7 => V.asSl (rd5 2) T_decl_Keep (fun es8 => V.asSl (rd5 3) T_decl_Break (fun es9 => V.asSl (rd5 4) T_decl_Watch (fun es10 => V.asInt (rd4 1) .i64 (fun n11 => V.asInt (rd4 2) .i64 (fun n12 => (den Sp decl_Parse.id [V.str (ByteArray.mk #[112, 97, 105, 114, 32, 102, 32, 59])] [] none).bind (fun r14 => Res.onRet r14 (fun v15 => V.asTup v15 3 (fun rd16 => V.asAgg (rd16 0) 5 (fun rd17 => V.asSl (rd17 0) T_api_Pair (fun es18 => V.asSl (rd17 1) T_api_Pair (fun es19 => V.asSl (rd17 2) T_decl_Keep (fun es20 => V.asSl (rd17 3) T_decl_Break (fun es21 => V.asSl (rd17 4) T_decl_Watch (fun es22 => V.asInt (rd16 1) .i64 (fun n23 => V.asInt (rd16 2) .i64 (fun n24 => (den Sp decl_Print.id [V.agg [V.sl .no T_api_Pair es6, V.sl .no T_api_Pair es7, V.sl .no T_decl_Keep es8, V.sl .no T_decl_Break es9, V.sl .no T_decl_Watch es10]] [] none).bind (fun r26 => Res.onRet r26 (fun v27 => V.asTup v27 2 (fun rd28 => V.asStr (rd28 0) (fun s29 => V.asInt (rd28 1) .i64 (fun n30 => (den Sp decl_Kept.id [V.agg [V.sl .no T_api_Pair es6, V.sl .no T_api_Pair es7, V.sl .no T_decl_Keep es8, V.sl .no T_decl_Break es9, V.sl .no T_decl_Watch es10], V.int .i64 (1 : Int)] [] none).bind (fun r32 => Res.onRet r32 (fun v33 => V.asSl v33 T_gen_Keep (fun es34 => bif (n12 == (0 : Int)) then (bif ((es6.length : Int) == (1 : Int)) then (bif ((es7.length : Int) == (1 : Int)) then (bif ((es9.length : Int) == (1 : Int)) then (bif (n24 == (30 : Int)) then (bif (n23 == (7 : Int)) then (bif (n30 == (0 : Int)) then (bif (decide (s29 = (ByteArray.mk #[112, 97, 105, 114, 32, 102, 32, 103, 32, 59, 32, 115, 97, 109, 101, 32, 102, 32, 40, 32, 120, 32, 41, 32, 103, 32, 40, 32, 121, 32, 41, 32, 59, 32, 98, 114, 101, 97, 107, 32, 108, 101, 102, 116, 32, 102, 32, 50, 32, 119, 104, 101, 110, 32, 120, 32, 60, 32, 51, 32, 59]))) then (bif ((es34.length : Int) == (1 : Int)) then (if (((0 : Int) <= (0 : Int)) ∧ ((0 : Int) < (es34.length : Int))) then (V.asStr (List.getD (List.getD es34 0 []) 1 V.undef) (fun s36 => some ⟨Out.ret (V.bool (decide (s36 = (ByteArray.mk #[121])))), [], none⟩)) else none) else (some ⟨Out.ret (V.bool false), [], none⟩)) else (some ⟨Out.ret (V.bool false), [], none⟩)) else (some ⟨Out.ret (V.bool false), [], none⟩)) else (some ⟨Out.ret (V.bool false), [], none⟩)) else (some ⟨Out.ret (V.bool false), [], none⟩)) else (some ⟨Out.ret (V.bool false), [], none⟩)) else (some ⟨Out.ret (V.bool false), [], none⟩)) else (some ⟨Out.ret (V.bool false), [], none⟩)) else (some ⟨Out.ret (V.bool false), [], none⟩))))))))))))))))))))))))))))))) := (den_eq ..).trans (by kernel_rfl)
end law12_known
end Go.Proofs.YtmhnmelaodhemaaDoor
namespace Go.Proofs.YtmhnmelaodhemaaDoor
open Go Go.Proofs.Ab Go.Proofs.Px
theorem law12_known_is : den Sp law12_known.id [] [] none = some ⟨.ret (.bool true), [], none⟩ := by
 rw [law12_known.eq]
 simp only [kd_p1, kd_p2, kd_pr, kd_k, Option.bind_some, onRet_ret, asAgg_agg, asTup_tup, List.length_cons, List.length_nil, Nat.zero_add, Nat.reduceAdd, List.getD_cons_zero, List.getD_cons_succ, asInt_int, asStr_str, asSl_sl, asBool_bool, bne_self_eq_false, cond_false]
 rfl
inductive Ex where
 | mk (kind : Int) (name : List UInt8) (num : Int) (l : List Ex)
instance : Inhabited Ex := ⟨.mk 0 [] 0 []⟩
def Ex.kind : Ex -> Int | .mk k _ _ _ => k
def Ex.name : Ex -> List UInt8 | .mk _ n _ _ => n
def Ex.num : Ex -> Int | .mk _ _ m _ => m
def Ex.l : Ex -> List Ex | .mk _ _ _ l => l
mutual
def Ex.v : Ex -> List V
 | .mk k n m l => [.int .i64 k, .str (B n), .int .i64 m, .sl .no T_api_Expr (Ex.vs l)]
def Ex.vs : List Ex -> List (List V)
 | [] => []
 | x :: l => Ex.v x :: Ex.vs l
end
theorem Ex.vs_map : ∀ l : List Ex, Ex.vs l = l.map Ex.v
 | [] => by rw [Ex.vs]; rfl
 | x :: l => by rw [Ex.vs, Ex.vs_map l]; rfl
theorem Ex.v_mk (k : Int) (n : List UInt8) (m : Int) (l : List Ex) : Ex.v (.mk k n m l) = [.int .i64 k, .str (B n), .int .i64 m, .sl .no T_api_Expr (l.map Ex.v)] := by rw [Ex.v, Ex.vs_map]
theorem Ex.v_is (x : Ex) : x.v = [.int .i64 x.kind, .str (B x.name), .int .i64 x.num, .sl .no T_api_Expr (x.l.map Ex.v)] := by cases x; exact Ex.v_mk ..
mutual
theorem Ex.ind {p : Ex -> Prop} (h : ∀ k n m l, (∀ x ∈ l, p x) -> p (.mk k n m l)) : ∀ x, p x
 | .mk k n m l => h k n m l (Ex.inds h l)
theorem Ex.inds {p : Ex -> Prop} (h : ∀ k n m l, (∀ x ∈ l, p x) -> p (.mk k n m l)) : ∀ (l : List Ex) (x : Ex), x ∈ l -> p x
 | [] => nofun
 | y :: l => fun x hx => (List.mem_cons.1 hx).elim (fun e => e ▸ Ex.ind h y) (Ex.inds h l x)
end
inductive ExOk : Ex -> Prop where
 | mk {k : Int} {n : List UInt8} {m : Int} {l : List Ex} (hk : (Lit.int .i64 k).wf = true) (hn : n.length <= 140737488351232) (hm : (Lit.int .i64 m).wf = true) (hl : l.length <= 140737488351232) (h : ∀ x ∈ l, ExOk x) : ExOk (.mk k n m l)
theorem ExOk.inv {k : Int} {n : List UInt8} {m : Int} {l : List Ex} (h : ExOk (.mk k n m l)) : (Lit.int .i64 k).wf = true ∧ n.length <= 140737488351232 ∧ (Lit.int .i64 m).wf = true ∧ l.length <= 140737488351232 ∧ ∀ x ∈ l, ExOk x := by
 cases h with
 | mk hk hn hm hl h => exact ⟨hk, hn, hm, hl, h⟩
mutual
def Ex.size : Ex -> Nat
 | .mk _ n _ l => 1 + n.length / 8 + Ex.sizes l
def Ex.sizes : List Ex -> Nat
 | [] => 0
 | x :: l => Ex.size x + Ex.sizes l
end
theorem Ex.size_pos (x : Ex) : 0 < x.size := by cases x; rw [Ex.size]; omega
theorem Ex.size_mem : ∀ {l : List Ex} {x : Ex}, x ∈ l -> x.size <= Ex.sizes l
 | y :: l, x, h => by
  rw [Ex.sizes]
  rcases List.mem_cons.1 h with rfl | h
  ·omega
  ·have := Ex.size_mem h; omega
@[simp] theorem Ex.v_0 (x : Ex) : x.v.getD 0 .undef = .int .i64 x.kind := by rw [Ex.v_is]; rfl
@[simp] theorem Ex.v_1 (x : Ex) : x.v.getD 1 .undef = .str (B x.name) := by rw [Ex.v_is]; rfl
@[simp] theorem Ex.v_2 (x : Ex) : x.v.getD 2 .undef = .int .i64 x.num := by rw [Ex.v_is]; rfl
@[simp] theorem Ex.v_3 (x : Ex) : x.v.getD 3 .undef = .sl .no T_api_Expr (x.l.map Ex.v) := by rw [Ex.v_is]; rfl
@[simp] theorem Ex.kind_mk (k : Int) (s : List UInt8) (m : Int) (l : List Ex) : (Ex.mk k s m l).kind = k := rfl
@[simp] theorem Ex.name_mk (k : Int) (s : List UInt8) (m : Int) (l : List Ex) : (Ex.mk k s m l).name = s := rfl
@[simp] theorem Ex.num_mk (k : Int) (s : List UInt8) (m : Int) (l : List Ex) : (Ex.mk k s m l).num = m := rfl
@[simp] theorem Ex.l_mk (k : Int) (s : List UInt8) (m : Int) (l : List Ex) : (Ex.mk k s m l).l = l := rfl
@[simp] theorem Ex.v_list (x : Ex) : [V.int .i64 x.kind, V.str (B x.name), V.int .i64 x.num, V.sl .no T_api_Expr (x.l.map Ex.v)] = x.v := by rw [Ex.v_is]
@[simp] theorem asAgg_ex (x : Ex) (k : (Nat -> V) -> Option Res) : V.asAgg (.agg x.v) 4 k = k (fun j => x.v.getD j .undef) := asAgg_agg _ _ (by rw [Ex.v_is]; rfl) k
@[simp] theorem Ex.q0 (x : Ex) : x.v[0]?.getD V.undef = .int .i64 x.kind := by rw [Ex.v_is]; rfl
@[simp] theorem Ex.q1 (x : Ex) : x.v[1]?.getD V.undef = .str (B x.name) := by rw [Ex.v_is]; rfl
@[simp] theorem Ex.q2 (x : Ex) : x.v[2]?.getD V.undef = .int .i64 x.num := by rw [Ex.v_is]; rfl
@[simp] theorem Ex.q3 (x : Ex) : x.v[3]?.getD V.undef = .sl .no T_api_Expr (x.l.map Ex.v) := by rw [Ex.v_is]; rfl
end Go.Proofs.YtmhnmelaodhemaaDoor
namespace Go.Proofs.Px
open Go Go.Proofs.Ab
def lt (c : UInt8) : Bool := letter (c.toNat : Int)
def dg (c : UInt8) : Bool := digit (c.toNat : Int)
def inn (c : UInt8) : Bool := inner (c.toNat : Int)
def sk : Bool -> List UInt8 -> List UInt8
 | _, [] => []
 | rm, c :: r => if c = 10 then sk false r else if rm then sk true r else if c = 32 then sk false r else if c = 35 then sk true r else c :: r
theorem sk_le : ∀ (rm : Bool) (l : List UInt8), (sk rm l).length <= l.length
 | _, [] => Nat.le_refl _
 | rm, c :: r => by
  have h1 := sk_le false r
  have h2 := sk_le true r
  unfold sk
  split
  ·simp; omega
  ·split
   ·simp; omega
   ·split
    ·simp; omega
    ·split
     ·simp; omega
     ·simp
theorem sk_drop : ∀ (rm : Bool) (l : List UInt8), sk rm l = l.drop (l.length - (sk rm l).length)
 | _, [] => rfl
 | rm, c :: r => by
  have key : ∀ rm', sk rm' r = (c :: r).drop ((c :: r).length - (sk rm' r).length) := fun rm' => by
   have h1 := sk_le rm' r
   have h2 := sk_drop rm' r
   rw [show (c :: r).length - (sk rm' r).length = (r.length - (sk rm' r).length) + 1 by simp; omega, List.drop_succ_cons, <- h2]
  unfold sk
  split
  ·exact key false
  ·split
   ·exact key true
   ·split
    ·exact key false
    ·split
     ·exact key true
     ·simp
def word (l : List UInt8) : List UInt8 := l.takeWhile inn
def signs : List (List UInt8) := [[61, 61], [33, 61], [60, 61], [38, 38], [124, 124], [40], [41], [123], [125], [91], [93], [44], [59], [61], [60], [33], [43], [45], [42], [47], [37]]
def signIn (l : List UInt8) : List (List UInt8) -> List UInt8
 | [] => []
 | x :: r => if l.take x.length = x then x else signIn l r
def sign (l : List UInt8) : List UInt8 := signIn l signs
def valF (u : Nat) : List UInt8 -> Nat
 | [] => u
 | c :: r => valF (u * 10 + (c.toNat - 48)) r
def parseGo (u : Nat) : List UInt8 -> Int × Int
 | [] => if u = 9223372036854775808 then (0, 10) else ((u : Int), 0)
 | c :: r => if dg c ∧ u * 10 + (c.toNat - 48) <= 9223372036854775808 then parseGo (u * 10 + (c.toNat - 48)) r else (0, 10)
def parse (w : List UInt8) : Int × Int := if w.getD 0 0 ≠ 48 ∨ w.length = 1 then parseGo 0 w else (0, 10)
structure Tk where
 kind : Int
 text : List UInt8
 num : Int
 at_ : Int
def Tk.v (t : Tk) : List V := [.int .i64 t.kind, .str (B t.text), .int .i64 t.num, .int .i64 t.at_]
def keysL : List (List UInt8) := [[112, 114, 111, 99], [118, 97, 114], [105, 102], [101, 108, 115, 101], [119, 104, 105, 108, 101], [114, 101, 116, 117, 114, 110], [112, 114, 105, 110, 116], [114, 101, 97, 100], [97, 115, 115, 101, 114, 116], [105, 110, 116], [98, 111, 111, 108], [116, 114, 117, 101], [102, 97, 108, 115, 101]]
theorem isKey_B (l : List UInt8) : isKey (B l) = keysL.any fun k => decide (k = l) := by
 have : keys = keysL.map B := rfl
 unfold isKey isIn
 rw [this, List.any_map]
 congr 1
 funext k
 exact B_dec k l
def isKeyL (l : List UInt8) : Bool := keysL.any fun k => decide (k = l)
def next (r : List UInt8) (at_ : Int) : Tk × Nat × Bool :=
 match r with
 | [] => (⟨0, [], 0, at_⟩, 0, true)
 | c :: _ =>
  if lt c then (⟨if isKeyL (word r) then 3 else 1, word r, 0, at_⟩, (word r).length, decide ((word r).length <= 40))
  else if dg c then (⟨2, [], (parse (word r)).1, at_⟩, (word r).length, decide ((parse (word r)).2 = 0))
  else (⟨4, sign r, 0, at_⟩, (sign r).length, !decide (sign r = []))
def scanGo : Nat -> Nat -> List Tk -> List UInt8 -> List Tk × Int × Int
 | 0, _, _, _ => ([], 0, 0)
 | f + 1, n, out, r =>
  let r1 := sk false r
  let a : Int := ((n - r1.length : Nat) : Int)
  let x := next r1 a
  if x.2.2 = false then ([], a, 20) else if out.length = 4000 then ([], a, 2) else if x.1.kind = 0 then (out ++ [x.1], 0, 0) else scanGo f n (out ++ [x.1]) (r1.drop x.2.1)
theorem scanGo_succ (f n : Nat) (out : List Tk) (r : List UInt8) : scanGo (f + 1) n out r =
  if (next (sk false r) ((n - (sk false r).length : Nat) : Int)).2.2 = false then ([], ((n - (sk false r).length : Nat) : Int), 20) else if out.length = 4000 then ([], ((n - (sk false r).length : Nat) : Int), 2) else
   if (next (sk false r) ((n - (sk false r).length : Nat) : Int)).1.kind = 0 then (out ++ [(next (sk false r) ((n - (sk false r).length : Nat) : Int)).1], 0, 0) else
    scanGo f n (out ++ [(next (sk false r) ((n - (sk false r).length : Nat) : Int)).1]) ((sk false r).drop (next (sk false r) ((n - (sk false r).length : Nat) : Int)).2.1) := rfl
def scan (l : List UInt8) : List Tk × Int × Int := if l.length > 16384 then ([], 0, 2) else scanGo (l.length + 1) l.length [] l
theorem i64_bounds {n : Int} (h : (Lit.int .i64 n).wf = true) : -9223372036854775808 <= n ∧ n <= 9223372036854775807 := by
 simpa [Lit.wf, IntKind.min, IntKind.max, IntKind.signed, IntKind.bits] using h
structure TkOk (t : Tk) : Prop where
 text : t.text.length <= 140737488351232
 kind : (Lit.int .i64 t.kind).wf = true
 num : (Lit.int .i64 t.num).wf = true
 at_ : (Lit.int .i64 t.at_).wf = true
def isSign (l : List UInt8) : Bool := signs.contains l
theorem signIn_or (r : List UInt8) : ∀ l, signIn r l = [] ∨ signIn r l ∈ l
 | [] => .inl rfl
 | x :: l => by
  unfold signIn
  split
  ·exact .inr List.mem_cons_self
  ·exact (signIn_or r l).imp id (List.mem_cons_of_mem _)
theorem sign_self (l : List UInt8) : (!decide (l = []) && decide (sign l = l)) = isSign l := by
 have h1 : signs.all (fun x => !decide (x = []) && decide (sign x = x)) = true := by decide
 by_cases h : l ∈ signs
 ·rw [List.all_eq_true.1 h1 l h]
  exact (List.contains_iff_mem.2 h).symm
 ·have h2 : isSign l = false := by
   unfold isSign
   rw [<- Bool.not_eq_true, List.contains_iff_mem]; exact h
  rw [h2]
  by_cases h3 : l = []
  ·rw [decide_eq_true h3]; rfl
  ·by_cases h4 : sign l = l
   ·rcases signIn_or l signs with h5 | h5
    ·exact absurd (h4.symm.trans h5) h3
    ·unfold sign at h4
     rw [h4] at h5
     exact absurd h5 h
   ·rw [decide_eq_false h4, Bool.and_false]
theorem word_all : ∀ {l : List UInt8} (h : ∀ c ∈ l, inn c = true), word l = l
 | [], _ => rfl
 | c :: l, h => by
  have := word_all (l := l) fun d hd => h d (List.mem_cons_of_mem _ hd)
  unfold word at *
  rw [List.takeWhile_cons, h c List.mem_cons_self, if_pos rfl, this]
theorem name_facts {l : List UInt8} (h : isName (B l) = true) : l ≠ [] ∧ l.length <= 40 ∧ lt (l.getD 0 0) = true ∧ isKeyL l = false ∧ word l = l := by
 unfold isName at h
 simp only [Bool.and_eq_true, decide_eq_true_eq, Bool.not_eq_true', B_size, B_byte] at h
 obtain ⟨⟨⟨⟨h1, h2⟩, h3⟩, h4⟩, h5⟩ := h
 refine ⟨fun h0 => (by subst h0; simp at h1), h2, h3, (isKey_B l).symm.trans h4, word_all fun c hc => ?_⟩
 obtain ⟨i, hi, rfl⟩ := List.getElem_of_mem hc
 have := allF_iff.1 h5 i (Nat.zero_le _) hi
 rw [List.getD_eq_getElem?_getD, List.getElem?_eq_getElem hi] at this
 exact this
theorem key_facts {l : List UInt8} (h : isKeyL l = true) : l ≠ [] ∧ l.length <= 40 ∧ lt (l.getD 0 0) = true ∧ word l = l := by
 have h1 : keysL.all (fun x => !decide (x = []) && decide (x.length <= 40) && lt (x.getD 0 0) && decide (word x = x)) = true := by decide
 unfold isKeyL at h
 obtain ⟨k, hk, h2⟩ := List.any_eq_true.1 h
 obtain rfl := of_decide_eq_true h2
 have := List.all_eq_true.1 h1 k hk
 simp only [Bool.and_eq_true, decide_eq_true_eq, Bool.not_eq_true', decide_eq_false_iff_not] at this
 exact ⟨this.1.1.1, this.1.1.2, this.1.2, this.2⟩
def wrOk (t : Tk) : Bool :=
 if t.kind = 1 then decide (t.num = 0) && isName (B t.text) else if t.kind = 3 then decide (t.num = 0) && isKeyL t.text else
  if t.kind = 4 then decide (t.num = 0) && isSign t.text else if t.kind = 2 then decide (t.text = []) && decide (0 <= t.num) else false
def wrT (t : Tk) : List UInt8 := if t.kind = 2 then decs t.num else t.text
def endT (t : Tk) : Bool := decide (t.kind = 0) && decide (t.text = []) && decide (t.num = 0)
def rightL : List Tk -> Bool
 | [] => false
 | [t] => endT t
 | t :: u :: l => wrOk t && rightL (u :: l)
def joinL : List (List UInt8) -> List UInt8
 | [] => []
 | [w] => w
 | w :: v :: l => w ++ (32 :: joinL (v :: l))
end Go.Proofs.Px
namespace Go.Proofs.YtmhnmelaodhemaaDoor
open Go Go.Proofs.Ab
namespace lex_letter
theorem eq (a0 : Int) : den Sp id [V.int IntKind.u8 a0] [] none =
  (bif (decide (a0 >= (65 : Int))) then (bif (decide (a0 <= (90 : Int))) then (some ⟨Out.ret (V.bool true), [], none⟩) else (bif (decide (a0 >= (97 : Int))) then (some ⟨Out.ret (V.bool (decide (a0 <= (122 : Int)))), [], none⟩) else (some ⟨Out.ret (V.bool false), [], none⟩))) else (bif (decide (a0 >= (97 : Int))) then (some ⟨Out.ret (V.bool (decide (a0 <= (122 : Int)))), [], none⟩) else (some ⟨Out.ret (V.bool false), [], none⟩))) := (den_eq ..).trans (by kernel_rfl)
end lex_letter
namespace lex_digit
theorem eq (a0 : Int) : den Sp id [V.int IntKind.u8 a0] [] none =
  (bif (decide (a0 >= (48 : Int))) then (some ⟨Out.ret (V.bool (decide (a0 <= (57 : Int)))), [], none⟩) else (some ⟨Out.ret (V.bool false), [], none⟩)) := (den_eq ..).trans (by kernel_rfl)
end lex_digit
namespace lex_inner
theorem eq (a0 : Int) : den Sp id [V.int IntKind.u8 a0] [] none =
  (den Sp lex_letter.id [V.int IntKind.u8 a0] [] none).bind (fun r3 => Res.onRet r3 (fun v4 => V.asBool v4 (fun b5 => bif b5 then (some ⟨Out.ret (V.bool true), [], none⟩) else (den Sp lex_digit.id [V.int IntKind.u8 a0] [] none).bind (fun r6 => Res.onRet r6 (fun v7 => V.asBool v7 (fun b8 => bif b8 then (some ⟨Out.ret (V.bool true), [], none⟩) else (some ⟨Out.ret (V.bool (a0 == (95 : Int))), [], none⟩))))))) := (den_eq ..).trans (by kernel_rfl)
end lex_inner
namespace lex_isKey
noncomputable abbrev e (p : List Nat) := ev Sp (den Sp) id Tryd.f47.ntmps (cAt (bodyOf Tryd.f47) p)
noncomputable abbrev cn (n0 : List Nat) := canon Sp id n0
noncomputable abbrev K : K := kFin Sp (den Sp) Tryd.f47 0
noncomputable def L1_0_1_0 (s0 : ByteArray) (i1 : Int) : Option Res := LP (e [1, 0, 1, 0, 0]) (cn []) (kBlk 0 (kSeq (e [1, 1]) (K))) ([(0, (V.str s0)), (5, (V.agg [V.str (ByteArray.mk #[112, 114, 111, 99]), V.str (ByteArray.mk #[118, 97, 114]), V.str (ByteArray.mk #[105, 102]), V.str (ByteArray.mk #[101, 108, 115, 101]), V.str (ByteArray.mk #[119, 104, 105, 108, 101]), V.str (ByteArray.mk #[114, 101, 116, 117, 114, 110]), V.str (ByteArray.mk #[112, 114, 105, 110, 116]), V.str (ByteArray.mk #[114, 101, 97, 100]), V.str (ByteArray.mk #[97, 115, 115, 101, 114, 116]), V.str (ByteArray.mk #[105, 110, 116]), V.str (ByteArray.mk #[98, 111, 111, 108]), V.str (ByteArray.mk #[116, 114, 117, 101]), V.str (ByteArray.mk #[102, 97, 108, 115, 101])])), (6, (V.int .i64 i1))], ⟨[], [], [], [], none⟩)
theorem L1_0_1_0_eq (s0 : ByteArray) (i1 : Int) : L1_0_1_0 s0 i1 =
  (bif (decide (i1 < (13 : Int))) then (if (((0 : Int) <= i1) ∧ (i1 < ((13 : Nat) : Int))) then (V.asStr (List.getD [V.str (ByteArray.mk #[112, 114, 111, 99]), V.str (ByteArray.mk #[118, 97, 114]), V.str (ByteArray.mk #[105, 102]), V.str (ByteArray.mk #[101, 108, 115, 101]), V.str (ByteArray.mk #[119, 104, 105, 108, 101]), V.str (ByteArray.mk #[114, 101, 116, 117, 114, 110]), V.str (ByteArray.mk #[112, 114, 105, 110, 116]), V.str (ByteArray.mk #[114, 101, 97, 100]), V.str (ByteArray.mk #[97, 115, 115, 101, 114, 116]), V.str (ByteArray.mk #[105, 110, 116]), V.str (ByteArray.mk #[98, 111, 111, 108]), V.str (ByteArray.mk #[116, 114, 117, 101]), V.str (ByteArray.mk #[102, 97, 108, 115, 101])] (((Int.toNat i1) * 1) + 0) V.undef) (fun s7 => bif (decide (s0 = s7)) then (some ⟨Out.ret (V.bool true), [], none⟩) else (L1_0_1_0 s0 (IntKind.wrap .i64 (i1 + (1 : Int)))))) else none) else (some ⟨Out.ret (V.bool false), [], none⟩)) := (LP_eq ..).trans (by kernel_rfl)
theorem eq (a0 : ByteArray) : den Sp id [V.str a0] [] none =
  (L1_0_1_0 a0 (0 : Int)) := (den_eq ..).trans (by kernel_rfl)
end lex_isKey
namespace lex_IsName
noncomputable abbrev e (p : List Nat) := ev Sp (den Sp) id Tryd.f38.ntmps (cAt (bodyOf Tryd.f38) p)
noncomputable abbrev cn (n0 : List Nat) := canon Sp id n0
noncomputable abbrev K : K := kFin Sp (den Sp) Tryd.f38 0
noncomputable def L1_1_0_1_0 (s0 : ByteArray) (i1 i2 : Int) : Option Res := LP (e [1, 1, 0, 1, 0, 0]) (cn []) (kBlk 0 (kSeq (e [1, 1, 1]) (K))) ([(0, (V.str s0)), (22, (V.int .i64 i1)), (23, (V.int .i64 i2))], ⟨[], [], [], [], none⟩)
theorem L1_1_0_1_0_eq (s0 : ByteArray) (i1 i2 : Int) : L1_1_0_1_0 s0 i1 i2 =
  (bif (decide (i2 < i1)) then (if (((0 : Int) <= i2) ∧ (i2 < (((ByteArray.size s0) : Nat) : Int))) then (den Sp lex_inner.id [V.int IntKind.u8 (byteAt s0 (Int.toNat i2))] [] none).bind (fun r16 => Res.onRet r16 (fun v17 => V.asBool v17 (fun b18 => bif (!b18) then (some ⟨Out.ret (V.bool false), [], none⟩) else (L1_1_0_1_0 s0 i1 (IntKind.wrap .i64 (i2 + (1 : Int))))))) else none) else (some ⟨Out.ret (V.bool true), [], none⟩)) := (LP_eq ..).trans (by kernel_rfl)
theorem eq (a0 : ByteArray) : den Sp id [V.str a0] [] none =
  (bif (decide (a0 = (ByteArray.mk #[]))) then (some ⟨Out.ret (V.bool false), [], none⟩) else (bif (decide ((((ByteArray.size a0) : Nat) : Int) > (40 : Int))) then (some ⟨Out.ret (V.bool false), [], none⟩) else (if (((0 : Int) <= (0 : Int)) ∧ ((0 : Int) < (((ByteArray.size a0) : Nat) : Int))) then (den Sp lex_letter.id [V.int IntKind.u8 (byteAt a0 0)] [] none).bind (fun r3 => Res.onRet r3 (fun v4 => V.asBool v4 (fun b5 => bif (!b5) then (some ⟨Out.ret (V.bool false), [], none⟩) else (den Sp lex_isKey.id [V.str a0] [] none).bind (fun r6 => Res.onRet r6 (fun v7 => V.asBool v7 (fun b8 => bif b8 then (some ⟨Out.ret (V.bool false), [], none⟩) else (L1_1_0_1_0 a0 (((ByteArray.size a0) : Nat) : Int) (0 : Int)))))))) else none))) := (den_eq ..).trans (by kernel_rfl)
end lex_IsName
namespace num_Text
noncomputable abbrev e (p : List Nat) := ev Sp (den Sp) id Tryd.f39.ntmps (cAt (bodyOf Tryd.f39) p)
noncomputable abbrev cn (n0 : List Nat) := canon Sp id n0
noncomputable abbrev K : K := kFin Sp (den Sp) Tryd.f39 0
noncomputable def L1_1_1_1_1_0_0 (i0 i1 i2 : Int) (l3 : List (List V)) : Option Res := LP (e [1, 1, 1, 1, 1, 0, 0, 0]) (cn [1003]) (kBlk 0 (kSeq (e [1, 1, 1, 1, 1, 1]) (K))) ([(0, (V.int .i64 i0)), (3, (V.ref 1003 0)), (4, (V.int .i64 i1)), (5, (V.int IntKind.u64 i2))], ⟨[(1003, (Blk.vec T_uint8 l3 false))], [], [], [], none⟩)
theorem L1_1_1_1_1_0_0_eq (i0 i1 i2 : Int) (l3 : List (List V)) : L1_1_1_1_1_0_0 i0 i1 i2 l3 =
  (if (((0 : Int) <= (IntKind.wrap .i64 (i1 - (1 : Int)))) ∧ (((IntKind.wrap .i64 (i1 - (1 : Int))) < ((20 : Nat) : Int)) ∧ ((IntKind.wrap .i64 (i1 - (1 : Int))) < (l3.length : Int)))) then (bif ((IntKind.wrap IntKind.u64 (Int.tdiv i2 (10 : Int))) == (0 : Int)) then (bif (decide (i0 < (0 : Int))) then (if (((0 : Int) <= (IntKind.wrap .i64 ((IntKind.wrap .i64 (i1 - (1 : Int))) - (1 : Int)))) ∧ (((IntKind.wrap .i64 ((IntKind.wrap .i64 (i1 - (1 : Int))) - (1 : Int))) < ((20 : Nat) : Int)) ∧ ((IntKind.wrap .i64 ((IntKind.wrap .i64 (i1 - (1 : Int))) - (1 : Int))) < (((List.length (List.set l3 (Int.toNat (IntKind.wrap .i64 (i1 - (1 : Int)))) [V.int IntKind.u8 (IntKind.wrap IntKind.u8 (IntKind.wrap IntKind.u64 ((48 : Int) + (Int.tmod i2 (10 : Int)))))])) : Nat) : Int)))) then (if ((0 : Int) <= (IntKind.wrap .i64 ((IntKind.wrap .i64 (i1 - (1 : Int))) - (1 : Int)))) then (if (((Int.toNat (IntKind.wrap .i64 ((IntKind.wrap .i64 (i1 - (1 : Int))) - (1 : Int)))) <= 20) ∧ ((List.length (List.set (List.set l3 (Int.toNat (IntKind.wrap .i64 (i1 - (1 : Int)))) [V.int IntKind.u8 (IntKind.wrap IntKind.u8 (IntKind.wrap IntKind.u64 ((48 : Int) + (Int.tmod i2 (10 : Int)))))]) (Int.toNat (IntKind.wrap .i64 ((IntKind.wrap .i64 (i1 - (1 : Int))) - (1 : Int)))) [V.int IntKind.u8 (45 : Int)])) = 20)) then (if (((bytesOk (List.take (20 - (Int.toNat (IntKind.wrap .i64 ((IntKind.wrap .i64 (i1 - (1 : Int))) - (1 : Int))))) (List.drop (Int.toNat (IntKind.wrap .i64 ((IntKind.wrap .i64 (i1 - (1 : Int))) - (1 : Int)))) (List.set (List.set l3 (Int.toNat (IntKind.wrap .i64 (i1 - (1 : Int)))) [V.int IntKind.u8 (IntKind.wrap IntKind.u8 (IntKind.wrap IntKind.u64 ((48 : Int) + (Int.tmod i2 (10 : Int)))))]) (Int.toNat (IntKind.wrap .i64 ((IntKind.wrap .i64 (i1 - (1 : Int))) - (1 : Int)))) [V.int IntKind.u8 (45 : Int)])))) = true) ∧ (((Int.toNat (IntKind.wrap .i64 ((IntKind.wrap .i64 (i1 - (1 : Int))) - (1 : Int)))) + (20 - (Int.toNat (IntKind.wrap .i64 ((IntKind.wrap .i64 (i1 - (1 : Int))) - (1 : Int)))))) <= (List.length (List.set (List.set l3 (Int.toNat (IntKind.wrap .i64 (i1 - (1 : Int)))) [V.int IntKind.u8 (IntKind.wrap IntKind.u8 (IntKind.wrap IntKind.u64 ((48 : Int) + (Int.tmod i2 (10 : Int)))))]) (Int.toNat (IntKind.wrap .i64 ((IntKind.wrap .i64 (i1 - (1 : Int))) - (1 : Int)))) [V.int IntKind.u8 (45 : Int)])))) then (some ⟨Out.ret (V.str (ByteArray.mk (toBytes (List.take (20 - (Int.toNat (IntKind.wrap .i64 ((IntKind.wrap .i64 (i1 - (1 : Int))) - (1 : Int))))) (List.drop (Int.toNat (IntKind.wrap .i64 ((IntKind.wrap .i64 (i1 - (1 : Int))) - (1 : Int)))) (List.set (List.set l3 (Int.toNat (IntKind.wrap .i64 (i1 - (1 : Int)))) [V.int IntKind.u8 (IntKind.wrap IntKind.u8 (IntKind.wrap IntKind.u64 ((48 : Int) + (Int.tmod i2 (10 : Int)))))]) (Int.toNat (IntKind.wrap .i64 ((IntKind.wrap .i64 (i1 - (1 : Int))) - (1 : Int)))) [V.int IntKind.u8 (45 : Int)])))).toArray)), [], none⟩) else none) else none) else none) else none) else (if ((0 : Int) <= (IntKind.wrap .i64 (i1 - (1 : Int)))) then (if (((Int.toNat (IntKind.wrap .i64 (i1 - (1 : Int)))) <= 20) ∧ ((List.length (List.set l3 (Int.toNat (IntKind.wrap .i64 (i1 - (1 : Int)))) [V.int IntKind.u8 (IntKind.wrap IntKind.u8 (IntKind.wrap IntKind.u64 ((48 : Int) + (Int.tmod i2 (10 : Int)))))])) = 20)) then (if (((bytesOk (List.take (20 - (Int.toNat (IntKind.wrap .i64 (i1 - (1 : Int))))) (List.drop (Int.toNat (IntKind.wrap .i64 (i1 - (1 : Int)))) (List.set l3 (Int.toNat (IntKind.wrap .i64 (i1 - (1 : Int)))) [V.int IntKind.u8 (IntKind.wrap IntKind.u8 (IntKind.wrap IntKind.u64 ((48 : Int) + (Int.tmod i2 (10 : Int)))))])))) = true) ∧ (((Int.toNat (IntKind.wrap .i64 (i1 - (1 : Int)))) + (20 - (Int.toNat (IntKind.wrap .i64 (i1 - (1 : Int)))))) <= (List.length (List.set l3 (Int.toNat (IntKind.wrap .i64 (i1 - (1 : Int)))) [V.int IntKind.u8 (IntKind.wrap IntKind.u8 (IntKind.wrap IntKind.u64 ((48 : Int) + (Int.tmod i2 (10 : Int)))))])))) then (some ⟨Out.ret (V.str (ByteArray.mk (toBytes (List.take (20 - (Int.toNat (IntKind.wrap .i64 (i1 - (1 : Int))))) (List.drop (Int.toNat (IntKind.wrap .i64 (i1 - (1 : Int)))) (List.set l3 (Int.toNat (IntKind.wrap .i64 (i1 - (1 : Int)))) [V.int IntKind.u8 (IntKind.wrap IntKind.u8 (IntKind.wrap IntKind.u64 ((48 : Int) + (Int.tmod i2 (10 : Int)))))])))).toArray)), [], none⟩) else none) else none) else none)) else (L1_1_1_1_1_0_0 i0 (IntKind.wrap .i64 (i1 - (1 : Int))) (IntKind.wrap IntKind.u64 (Int.tdiv i2 (10 : Int))) (List.set l3 (Int.toNat (IntKind.wrap .i64 (i1 - (1 : Int)))) [V.int IntKind.u8 (IntKind.wrap IntKind.u8 (IntKind.wrap IntKind.u64 ((48 : Int) + (Int.tmod i2 (10 : Int)))))]))) else none) := (LP_eq ..).trans (by kernel_rfl)
theorem eq (a0 : Int) : den Sp id [V.int .i64 a0] [] none =
  (bif (decide (a0 < (0 : Int))) then (L1_1_1_1_1_0_0 a0 (20 : Int) (IntKind.wrap IntKind.u64 ((0 : Int) - (IntKind.wrap IntKind.u64 a0))) [[V.int IntKind.u8 (0 : Int)], [V.int IntKind.u8 (0 : Int)], [V.int IntKind.u8 (0 : Int)], [V.int IntKind.u8 (0 : Int)], [V.int IntKind.u8 (0 : Int)], [V.int IntKind.u8 (0 : Int)], [V.int IntKind.u8 (0 : Int)], [V.int IntKind.u8 (0 : Int)], [V.int IntKind.u8 (0 : Int)], [V.int IntKind.u8 (0 : Int)], [V.int IntKind.u8 (0 : Int)], [V.int IntKind.u8 (0 : Int)], [V.int IntKind.u8 (0 : Int)], [V.int IntKind.u8 (0 : Int)], [V.int IntKind.u8 (0 : Int)], [V.int IntKind.u8 (0 : Int)], [V.int IntKind.u8 (0 : Int)], [V.int IntKind.u8 (0 : Int)], [V.int IntKind.u8 (0 : Int)], [V.int IntKind.u8 (0 : Int)]]) else (L1_1_1_1_1_0_0 a0 (20 : Int) (IntKind.wrap IntKind.u64 a0) [[V.int IntKind.u8 (0 : Int)], [V.int IntKind.u8 (0 : Int)], [V.int IntKind.u8 (0 : Int)], [V.int IntKind.u8 (0 : Int)], [V.int IntKind.u8 (0 : Int)], [V.int IntKind.u8 (0 : Int)], [V.int IntKind.u8 (0 : Int)], [V.int IntKind.u8 (0 : Int)], [V.int IntKind.u8 (0 : Int)], [V.int IntKind.u8 (0 : Int)], [V.int IntKind.u8 (0 : Int)], [V.int IntKind.u8 (0 : Int)], [V.int IntKind.u8 (0 : Int)], [V.int IntKind.u8 (0 : Int)], [V.int IntKind.u8 (0 : Int)], [V.int IntKind.u8 (0 : Int)], [V.int IntKind.u8 (0 : Int)], [V.int IntKind.u8 (0 : Int)], [V.int IntKind.u8 (0 : Int)], [V.int IntKind.u8 (0 : Int)]])) := (den_eq ..).trans (by kernel_rfl)
end num_Text
namespace num_Join
noncomputable abbrev e (p : List Nat) := ev Sp (den Sp) id Tryd.f66.ntmps (cAt (bodyOf Tryd.f66) p)
noncomputable abbrev cn (n0 : List Nat) := canon Sp id n0
noncomputable abbrev K : K := kFin Sp (den Sp) Tryd.f66 0
noncomputable def L1_1_0_1_0 (l0 l1 : List (List V)) (i2 i3 : Int) : Option Res := LP (e [1, 1, 0, 1, 0, 0]) (cn []) (kBlk 0 (kSeq (e [1, 1, 1]) (K))) ([(3, (V.sl (Tok.row 0) T_uint8 l0)), (6, (V.sl .no T_string l1)), (7, (V.int .i64 i2)), (8, (V.int .i64 i3))], ⟨[], [0], [], [], none⟩)
theorem L1_1_0_1_0_eq (l0 l1 : List (List V)) (i2 i3 : Int) : L1_1_0_1_0 l0 l1 i2 i3 =
  (bif (decide (i3 < i2)) then (if (((0 : Int) <= i3) ∧ (i3 < (l1.length : Int))) then (V.asStr (List.getD (List.getD l1 (Int.toNat i3) []) 0 V.undef) (fun s10 => bif (decide (i3 > (0 : Int))) then (if (((List.length l0) + 1) <= most) then (if (((List.length (l0 ++ [[V.int IntKind.u8 (32 : Int)]])) + (ByteArray.size s10)) <= most) then (L1_1_0_1_0 ((l0 ++ [[V.int IntKind.u8 (32 : Int)]]) ++ (ofBytes s10)) l1 i2 (IntKind.wrap .i64 (i3 + (1 : Int)))) else none) else none) else (if (((List.length l0) + (ByteArray.size s10)) <= most) then (L1_1_0_1_0 (l0 ++ (ofBytes s10)) l1 i2 (IntKind.wrap .i64 (i3 + (1 : Int)))) else none))) else none) else (if ((bytesOk l0) = true) then (some ⟨Out.ret (V.str (ByteArray.mk (toBytes l0).toArray)), [], none⟩) else none)) := (LP_eq ..).trans (by kernel_rfl)
theorem eq (a0 : (List (List V))) : den Sp id [V.sl .no T_string a0] [] none =
  (L1_1_0_1_0 [] a0 (a0.length : Int) (0 : Int)) := (den_eq ..).trans (by kernel_rfl)
end num_Join
namespace lex_Scan
noncomputable abbrev e (p : List Nat) := ev Sp (den Sp) id Tryd.f13.ntmps (cAt (bodyOf Tryd.f13) p)
noncomputable abbrev cn (n0 : List Nat) := canon Sp id n0
noncomputable abbrev K : K := kFin Sp (den Sp) Tryd.f13 0
noncomputable def L1_1_1_1_0 (l0 : List (List V)) (s1 : ByteArray) (i2 : Int) : Option Res := LP (e [1, 1, 1, 1, 0, 0]) (cn [1015]) (kBlk 0 (K)) ([(5, (V.ref 1015 0)), (6, (V.sl (Tok.row 0) T_api_Token l0))], ⟨[(1015, (Blk.cells T_lex_reader [V.str s1, V.int .i64 i2] false))], [0], [], [], none⟩)
theorem L1_1_1_1_0_eq (l0 : List (List V)) (s1 : ByteArray) (i2 : Int) : L1_1_1_1_0 l0 s1 i2 =
  (den Sp lex_reader_blank.id [V.ref 0 0] [Blk.cells T_lex_reader [V.str s1, V.int .i64 i2] false] none).bind (fun r9 => Blk.asCells (List.getD (Res.bl r9) 0 (Blk.cells T_n0 [] true)) T_lex_reader 2 (fun rd10 => V.asStr (rd10 0) (fun s11 => V.asInt (rd10 1) .i64 (fun n12 => Res.onRet r9 (fun v13 => V.asTup v13 0 (fun rd14 => (den Sp lex_reader_next.id [V.ref 0 0] [Blk.cells T_lex_reader [V.str s11, V.int .i64 n12] false] none).bind (fun r17 => Blk.asCells (List.getD (Res.bl r17) 0 (Blk.cells T_n0 [] true)) T_lex_reader 2 (fun rd18 => V.asStr (rd18 0) (fun s19 => V.asInt (rd18 1) .i64 (fun n20 => Res.onRet r17 (fun v21 => V.asTup v21 2 (fun rd22 => V.asAgg (rd22 0) 4 (fun rd23 => V.asInt (rd23 0) .i64 (fun n24 => V.asStr (rd23 1) (fun s25 => V.asInt (rd23 2) .i64 (fun n26 => V.asInt (rd23 3) .i64 (fun n27 => V.asBool (rd22 1) (fun b28 => bif (!b28) then (some ⟨Out.ret (V.tup [V.sl .no T_api_Token [], V.int .i64 n12, V.int .i64 (20 : Int)]), [], none⟩) else (bif ((l0.length : Int) == (4000 : Int)) then (some ⟨Out.ret (V.tup [V.sl .no T_api_Token [], V.int .i64 n12, V.int .i64 (2 : Int)]), [], none⟩) else (if (((List.length l0) + (List.length [[V.int .i64 n24, V.str s25, V.int .i64 n26, V.int .i64 n27]])) <= most) then (bif (n24 == (0 : Int)) then (some ⟨Out.ret (V.tup [V.sl .no T_api_Token (l0 ++ [[V.int .i64 n24, V.str s25, V.int .i64 n26, V.int .i64 n27]]), V.int .i64 (0 : Int), V.int .i64 (0 : Int)]), [], none⟩) else (L1_1_1_1_0 (l0 ++ [[V.int .i64 n24, V.str s25, V.int .i64 n26, V.int .i64 n27]]) s19 n20)) else none)))))))))))))))))))) := (LP_eq ..).trans (by kernel_rfl)
theorem eq (a0 : ByteArray) : den Sp id [V.str a0] [] none =
  (bif (decide ((((ByteArray.size a0) : Nat) : Int) > (16384 : Int))) then (some ⟨Out.ret (V.tup [V.sl .no T_api_Token [], V.int .i64 (0 : Int), V.int .i64 (2 : Int)]), [], none⟩) else (L1_1_1_1_0 [] a0 (0 : Int))) := (den_eq ..).trans (by kernel_rfl)
end lex_Scan
namespace lex_reader_blank
noncomputable abbrev e (p : List Nat) := ev Sp (den Sp) id Tryd.f24.ntmps (cAt (bodyOf Tryd.f24) p)
noncomputable abbrev cn (n0 : List Nat) := canon Sp id n0
noncomputable abbrev K : K := kFin Sp (den Sp) Tryd.f24 1
noncomputable def L0 (s0 : ByteArray) (i1 : Int) : Option Res := LP (e [0, 0]) (cn [0]) (kBlk 0 (K)) ([(0, (V.ref 0 0))], ⟨[(0, (Blk.cells T_lex_reader [V.str s0, V.int .i64 i1] false))], [], [], [], none⟩)
noncomputable def L0_0_1_0_1_0_1_1_1_0_0 (s0 : ByteArray) (i1 : Int) : Option Res := LP (e [0, 0, 1, 0, 1, 0, 1, 1, 1, 0, 0, 0]) (cn [0]) (kBlk 3 (kBlk 2 (kBlk 1 (kLp (e [0, 0]) (cn [0]) (kBlk 0 (K)))))) ([(0, (V.ref 0 0))], ⟨[(0, (Blk.cells T_lex_reader [V.str s0, V.int .i64 i1] false))], [], [], [], none⟩)
theorem L0_eq (s0 : ByteArray) (i1 : Int) : L0 s0 i1 =
  (bif (decide (i1 < (((ByteArray.size s0) : Nat) : Int))) then (if (((0 : Int) <= i1) ∧ (i1 < (((ByteArray.size s0) : Nat) : Int))) then (bif ((byteAt s0 (Int.toNat i1)) == (32 : Int)) then (L0 s0 (IntKind.wrap .i64 (i1 + (1 : Int)))) else (bif ((byteAt s0 (Int.toNat i1)) == (10 : Int)) then (L0 s0 (IntKind.wrap .i64 (i1 + (1 : Int)))) else (bif ((byteAt s0 (Int.toNat i1)) == (35 : Int)) then (L0_0_1_0_1_0_1_1_1_0_0 s0 i1) else (some ⟨Out.ret (V.tup []), [Blk.cells T_lex_reader [V.str s0, V.int .i64 i1] false], none⟩)))) else none) else (some ⟨Out.ret (V.tup []), [Blk.cells T_lex_reader [V.str s0, V.int .i64 i1] false], none⟩)) := (LP_eq ..).trans (by kernel_rfl)
theorem L0_0_1_0_1_0_1_1_1_0_0_eq (s0 : ByteArray) (i1 : Int) : L0_0_1_0_1_0_1_1_1_0_0 s0 i1 =
  (bif (decide (i1 < (((ByteArray.size s0) : Nat) : Int))) then (if (((0 : Int) <= i1) ∧ (i1 < (((ByteArray.size s0) : Nat) : Int))) then (bif ((byteAt s0 (Int.toNat i1)) != (10 : Int)) then (L0_0_1_0_1_0_1_1_1_0_0 s0 (IntKind.wrap .i64 (i1 + (1 : Int)))) else (L0 s0 i1)) else none) else (L0 s0 i1)) := (LP_eq ..).trans (by kernel_rfl)
theorem eq (m0_0 : ByteArray) (m0_1 : Int) : den Sp id [V.ref 0 0] [Blk.cells T_lex_reader [V.str m0_0, V.int .i64 m0_1] false] none =
  (L0 m0_0 m0_1) := (den_eq ..).trans (by kernel_rfl)
end lex_reader_blank
namespace lex_reader_next
theorem eq (m0_0 : ByteArray) (m0_1 : Int) : den Sp id [V.ref 0 0] [Blk.cells T_lex_reader [V.str m0_0, V.int .i64 m0_1] false] none =
  (bif (m0_1 == (((ByteArray.size m0_0) : Nat) : Int)) then (some ⟨Out.ret (V.tup [V.agg [V.int .i64 (0 : Int), V.str (ByteArray.mk #[]), V.int .i64 (0 : Int), V.int .i64 m0_1], V.bool true]), [Blk.cells T_lex_reader [V.str m0_0, V.int .i64 m0_1] false], none⟩) else (if (((0 : Int) <= m0_1) ∧ (m0_1 < (((ByteArray.size m0_0) : Nat) : Int))) then (den Sp lex_letter.id [V.int IntKind.u8 (byteAt m0_0 (Int.toNat m0_1))] [] none).bind (fun r7 => Res.onRet r7 (fun v8 => V.asBool v8 (fun b9 => bif b9 then (den Sp lex_reader_word.id [V.ref 0 0] [Blk.cells T_lex_reader [V.str m0_0, V.int .i64 m0_1] false] none).bind (fun r11 => Blk.asCells (List.getD (Res.bl r11) 0 (Blk.cells T_n0 [] true)) T_lex_reader 2 (fun rd12 => V.asStr (rd12 0) (fun s13 => V.asInt (rd12 1) .i64 (fun n14 => Res.onRet r11 (fun v15 => V.asStr v15 (fun s16 => (den Sp lex_isKey.id [V.str s16] [] none).bind (fun r18 => Res.onRet r18 (fun v19 => V.asBool v19 (fun b20 => bif b20 then (some ⟨Out.ret (V.tup [V.agg [V.int .i64 (3 : Int), V.str s16, V.int .i64 (0 : Int), V.int .i64 m0_1], V.bool (decide ((((ByteArray.size s16) : Nat) : Int) <= (40 : Int)))]), [Blk.cells T_lex_reader [V.str s13, V.int .i64 (IntKind.wrap .i64 (n14 + (((ByteArray.size s16) : Nat) : Int)))] false], none⟩) else (some ⟨Out.ret (V.tup [V.agg [V.int .i64 (1 : Int), V.str s16, V.int .i64 (0 : Int), V.int .i64 m0_1], V.bool (decide ((((ByteArray.size s16) : Nat) : Int) <= (40 : Int)))]), [Blk.cells T_lex_reader [V.str s13, V.int .i64 (IntKind.wrap .i64 (n14 + (((ByteArray.size s16) : Nat) : Int)))] false], none⟩)))))))))) else (den Sp lex_digit.id [V.int IntKind.u8 (byteAt m0_0 (Int.toNat m0_1))] [] none).bind (fun r11 => Res.onRet r11 (fun v12 => V.asBool v12 (fun b13 => bif b13 then (den Sp lex_reader_word.id [V.ref 0 0] [Blk.cells T_lex_reader [V.str m0_0, V.int .i64 m0_1] false] none).bind (fun r15 => Blk.asCells (List.getD (Res.bl r15) 0 (Blk.cells T_n0 [] true)) T_lex_reader 2 (fun rd16 => V.asStr (rd16 0) (fun s17 => V.asInt (rd16 1) .i64 (fun n18 => Res.onRet r15 (fun v19 => V.asStr v19 (fun s20 => (den Sp num_Parse.id [V.str s20] [] none).bind (fun r22 => Res.onRet r22 (fun v23 => V.asTup v23 2 (fun rd24 => V.asInt (rd24 0) .i64 (fun n25 => V.asInt (rd24 1) .i64 (fun n26 => some ⟨Out.ret (V.tup [V.agg [V.int .i64 (2 : Int), V.str (ByteArray.mk #[]), V.int .i64 n25, V.int .i64 m0_1], V.bool (n26 == (0 : Int))]), [Blk.cells T_lex_reader [V.str s17, V.int .i64 (IntKind.wrap .i64 (n18 + (((ByteArray.size s20) : Nat) : Int)))] false], none⟩))))))))))) else (if ((0 : Int) <= m0_1) then (if (((Int.toNat m0_1) <= (ByteArray.size m0_0)) ∧ ((ByteArray.size m0_0) <= (ByteArray.size m0_0))) then (den Sp lex_sign.id [V.str (ByteArray.extract m0_0 (Int.toNat m0_1) (ByteArray.size m0_0))] [] none).bind (fun r15 => Res.onRet r15 (fun v16 => V.asStr v16 (fun s17 => some ⟨Out.ret (V.tup [V.agg [V.int .i64 (4 : Int), V.str s17, V.int .i64 (0 : Int), V.int .i64 m0_1], V.bool (!(decide (s17 = (ByteArray.mk #[]))))]), [Blk.cells T_lex_reader [V.str m0_0, V.int .i64 (IntKind.wrap .i64 (m0_1 + (((ByteArray.size s17) : Nat) : Int)))] false], none⟩))) else none) else none))))))) else none)) := (den_eq ..).trans (by kernel_rfl)
end lex_reader_next
namespace lex_reader_word
noncomputable abbrev e (p : List Nat) := ev Sp (den Sp) id Tryd.f46.ntmps (cAt (bodyOf Tryd.f46) p)
noncomputable abbrev cn (n0 : List Nat) := canon Sp id n0
noncomputable abbrev K : K := kFin Sp (den Sp) Tryd.f46 1
noncomputable def L1_1_0_0 (i0 : Int) (s1 : ByteArray) (i2 : Int) : Option Res := LP (e [1, 1, 0, 0, 0]) (cn [0]) (kBlk 0 (kSeq (e [1, 1, 1]) (K))) ([(0, (V.ref 0 0)), (3, (V.int .i64 i0))], ⟨[(0, (Blk.cells T_lex_reader [V.str s1, V.int .i64 i2] false))], [], [], [], none⟩)
theorem L1_1_0_0_eq (i0 : Int) (s1 : ByteArray) (i2 : Int) : L1_1_0_0 i0 s1 i2 =
  (bif (decide (i0 < (((ByteArray.size s1) : Nat) : Int))) then (if (((0 : Int) <= i0) ∧ (i0 < (((ByteArray.size s1) : Nat) : Int))) then (den Sp lex_inner.id [V.int IntKind.u8 (byteAt s1 (Int.toNat i0))] [] none).bind (fun r8 => Res.onRet r8 (fun v9 => V.asBool v9 (fun b10 => bif b10 then (L1_1_0_0 (IntKind.wrap .i64 (i0 + (1 : Int))) s1 i2) else (if ((0 : Int) <= i2) then (if ((0 : Int) <= i0) then (if (((Int.toNat i2) <= (Int.toNat i0)) ∧ ((Int.toNat i0) <= (ByteArray.size s1))) then (some ⟨Out.ret (V.str (ByteArray.extract s1 (Int.toNat i2) (Int.toNat i0))), [Blk.cells T_lex_reader [V.str s1, V.int .i64 i2] false], none⟩) else none) else none) else none)))) else none) else (if ((0 : Int) <= i2) then (if ((0 : Int) <= i0) then (if (((Int.toNat i2) <= (Int.toNat i0)) ∧ ((Int.toNat i0) <= (ByteArray.size s1))) then (some ⟨Out.ret (V.str (ByteArray.extract s1 (Int.toNat i2) (Int.toNat i0))), [Blk.cells T_lex_reader [V.str s1, V.int .i64 i2] false], none⟩) else none) else none) else none)) := (LP_eq ..).trans (by kernel_rfl)
theorem eq (m0_0 : ByteArray) (m0_1 : Int) : den Sp id [V.ref 0 0] [Blk.cells T_lex_reader [V.str m0_0, V.int .i64 m0_1] false] none =
  (L1_1_0_0 m0_1 m0_0 m0_1) := (den_eq ..).trans (by kernel_rfl)
end lex_reader_word
namespace lex_sign
noncomputable abbrev e (p : List Nat) := ev Sp (den Sp) id Tryd.f50.ntmps (cAt (bodyOf Tryd.f50) p)
noncomputable abbrev cn (n0 : List Nat) := canon Sp id n0
noncomputable abbrev K : K := kFin Sp (den Sp) Tryd.f50 0
noncomputable def L1_0_1_1_0_1_0 (s0 : ByteArray) (i1 : Int) : Option Res := LP (e [1, 0, 1, 1, 0, 1, 0, 0]) (cn []) (kBlk 0 (kSeq (e [1, 0, 1, 1, 1]) (K))) ([(0, (V.str s0)), (3, (V.str (ByteArray.mk #[]))), (6, (V.agg [V.str (ByteArray.mk #[61, 61]), V.str (ByteArray.mk #[33, 61]), V.str (ByteArray.mk #[60, 61]), V.str (ByteArray.mk #[38, 38]), V.str (ByteArray.mk #[124, 124]), V.str (ByteArray.mk #[40]), V.str (ByteArray.mk #[41]), V.str (ByteArray.mk #[123]), V.str (ByteArray.mk #[125]), V.str (ByteArray.mk #[91]), V.str (ByteArray.mk #[93]), V.str (ByteArray.mk #[44]), V.str (ByteArray.mk #[59]), V.str (ByteArray.mk #[61]), V.str (ByteArray.mk #[60]), V.str (ByteArray.mk #[33]), V.str (ByteArray.mk #[43]), V.str (ByteArray.mk #[45]), V.str (ByteArray.mk #[42]), V.str (ByteArray.mk #[47]), V.str (ByteArray.mk #[37])])), (7, (V.int .i64 i1))], ⟨[], [], [], [], none⟩)
theorem L1_0_1_1_0_1_0_eq (s0 : ByteArray) (i1 : Int) : L1_0_1_1_0_1_0 s0 i1 =
  (bif (decide (i1 < (21 : Int))) then (if (((0 : Int) <= i1) ∧ (i1 < ((21 : Nat) : Int))) then (V.asStr (List.getD [V.str (ByteArray.mk #[61, 61]), V.str (ByteArray.mk #[33, 61]), V.str (ByteArray.mk #[60, 61]), V.str (ByteArray.mk #[38, 38]), V.str (ByteArray.mk #[124, 124]), V.str (ByteArray.mk #[40]), V.str (ByteArray.mk #[41]), V.str (ByteArray.mk #[123]), V.str (ByteArray.mk #[125]), V.str (ByteArray.mk #[91]), V.str (ByteArray.mk #[93]), V.str (ByteArray.mk #[44]), V.str (ByteArray.mk #[59]), V.str (ByteArray.mk #[61]), V.str (ByteArray.mk #[60]), V.str (ByteArray.mk #[33]), V.str (ByteArray.mk #[43]), V.str (ByteArray.mk #[45]), V.str (ByteArray.mk #[42]), V.str (ByteArray.mk #[47]), V.str (ByteArray.mk #[37])] (((Int.toNat i1) * 1) + 0) V.undef) (fun s8 => bif (decide ((((ByteArray.size s8) : Nat) : Int) <= (((ByteArray.size s0) : Nat) : Int))) then (if ((0 <= (Int.toNat (((ByteArray.size s8) : Nat) : Int))) ∧ ((Int.toNat (((ByteArray.size s8) : Nat) : Int)) <= (ByteArray.size s0))) then (bif (decide ((ByteArray.extract s0 0 (Int.toNat (((ByteArray.size s8) : Nat) : Int))) = s8)) then (some ⟨Out.ret (V.str s8), [], none⟩) else (L1_0_1_1_0_1_0 s0 (IntKind.wrap .i64 (i1 + (1 : Int))))) else none) else (L1_0_1_1_0_1_0 s0 (IntKind.wrap .i64 (i1 + (1 : Int)))))) else none) else (some ⟨Out.ret (V.str (ByteArray.mk #[])), [], none⟩)) := (LP_eq ..).trans (by kernel_rfl)
theorem eq (a0 : ByteArray) : den Sp id [V.str a0] [] none =
  (L1_0_1_1_0_1_0 a0 (0 : Int)) := (den_eq ..).trans (by kernel_rfl)
end lex_sign
namespace num_Parse
noncomputable abbrev e (p : List Nat) := ev Sp (den Sp) id Tryd.f49.ntmps (cAt (bodyOf Tryd.f49) p)
noncomputable abbrev cn (n0 : List Nat) := canon Sp id n0
noncomputable abbrev K : K := kFin Sp (den Sp) Tryd.f49 0
noncomputable def L1_0_1_1_1_1_1_0_1_0 (s0 : ByteArray) (i1 i2 : Int) : Option Res := LP (e [1, 0, 1, 1, 1, 1, 1, 0, 1, 0, 0]) (cn []) (kBlk 0 (kSeq (e [1, 0, 1, 1, 1, 1, 1, 1]) (K))) ([(4, (V.str s0)), (5, (V.bool true)), (6, (V.int IntKind.u64 i1)), (7, (V.bool true)), (8, (V.int .i64 i2))], ⟨[], [], [], [], none⟩)
noncomputable def L1_0_1_1_1_1_1_0_1_0v1 (s0 : ByteArray) (i1 : Int) (b2 : Bool) (i3 : Int) : Option Res := LP (e [1, 0, 1, 1, 1, 1, 1, 0, 1, 0, 0]) (cn []) (kBlk 0 (kSeq (e [1, 0, 1, 1, 1, 1, 1, 1]) (K))) ([(4, (V.str s0)), (5, (V.bool true)), (6, (V.int IntKind.u64 i1)), (7, (V.bool b2)), (8, (V.int .i64 i3))], ⟨[], [], [], [], none⟩)
noncomputable def L1_0_1_1_1_1_1_0_1_0v2 (s0 : ByteArray) (i1 i2 : Int) : Option Res := LP (e [1, 0, 1, 1, 1, 1, 1, 0, 1, 0, 0]) (cn []) (kBlk 0 (kSeq (e [1, 0, 1, 1, 1, 1, 1, 1]) (K))) ([(4, (V.str s0)), (5, (V.bool false)), (6, (V.int IntKind.u64 i1)), (7, (V.bool true)), (8, (V.int .i64 i2))], ⟨[], [], [], [], none⟩)
noncomputable def L1_0_1_1_1_1_1_0_1_0v3 (s0 : ByteArray) (i1 : Int) (b2 : Bool) (i3 : Int) : Option Res := LP (e [1, 0, 1, 1, 1, 1, 1, 0, 1, 0, 0]) (cn []) (kBlk 0 (kSeq (e [1, 0, 1, 1, 1, 1, 1, 1]) (K))) ([(4, (V.str s0)), (5, (V.bool false)), (6, (V.int IntKind.u64 i1)), (7, (V.bool b2)), (8, (V.int .i64 i3))], ⟨[], [], [], [], none⟩)
theorem L1_0_1_1_1_1_1_0_1_0v2_eq (s0 : ByteArray) (i1 i2 : Int) : L1_0_1_1_1_1_1_0_1_0v2 s0 i1 i2 =
  (bif (decide (i2 < (((ByteArray.size s0) : Nat) : Int))) then (if (((0 : Int) <= i2) ∧ (i2 < (((ByteArray.size s0) : Nat) : Int))) then (if (((0 : Int) <= i2) ∧ (i2 < (((ByteArray.size s0) : Nat) : Int))) then (bif (decide ((byteAt s0 (Int.toNat i2)) < (48 : Int))) then (some ⟨Out.ret (V.tup [V.int .i64 (0 : Int), V.int .i64 (10 : Int)]), [], none⟩) else (bif (decide ((IntKind.wrap IntKind.u64 ((IntKind.wrap IntKind.u64 (byteAt s0 (Int.toNat i2))) - (48 : Int))) > (9 : Int))) then (some ⟨Out.ret (V.tup [V.int .i64 (0 : Int), V.int .i64 (10 : Int)]), [], none⟩) else (bif (decide (i1 > (IntKind.wrap IntKind.u64 (Int.tdiv (IntKind.wrap IntKind.u64 ((9223372036854775808 : Int) - (IntKind.wrap IntKind.u64 ((IntKind.wrap IntKind.u64 (byteAt s0 (Int.toNat i2))) - (48 : Int))))) (10 : Int))))) then (some ⟨Out.ret (V.tup [V.int .i64 (0 : Int), V.int .i64 (10 : Int)]), [], none⟩) else (L1_0_1_1_1_1_1_0_1_0v2 s0 (IntKind.wrap IntKind.u64 ((IntKind.wrap IntKind.u64 (i1 * (10 : Int))) + (IntKind.wrap IntKind.u64 ((IntKind.wrap IntKind.u64 (byteAt s0 (Int.toNat i2))) - (48 : Int))))) (IntKind.wrap .i64 (i2 + (1 : Int))))))) else none) else none) else (bif (i1 == (9223372036854775808 : Int)) then (some ⟨Out.ret (V.tup [V.int .i64 (0 : Int), V.int .i64 (10 : Int)]), [], none⟩) else (some ⟨Out.ret (V.tup [V.int .i64 (IntKind.wrap .i64 i1), V.int .i64 (0 : Int)]), [], none⟩))) := (LP_eq ..).trans (by kernel_rfl)
theorem L1_0_1_1_1_1_1_0_1_0v3_eq (s0 : ByteArray) (i1 : Int) (b2 : Bool) (i3 : Int) : L1_0_1_1_1_1_1_0_1_0v3 s0 i1 b2 i3 =
  (bif b2 then (bif (decide (i3 < (((ByteArray.size s0) : Nat) : Int))) then (if (((0 : Int) <= i3) ∧ (i3 < (((ByteArray.size s0) : Nat) : Int))) then (if (((0 : Int) <= i3) ∧ (i3 < (((ByteArray.size s0) : Nat) : Int))) then (bif (decide ((byteAt s0 (Int.toNat i3)) < (48 : Int))) then (some ⟨Out.ret (V.tup [V.int .i64 (0 : Int), V.int .i64 (10 : Int)]), [], none⟩) else (bif (decide ((IntKind.wrap IntKind.u64 ((IntKind.wrap IntKind.u64 (byteAt s0 (Int.toNat i3))) - (48 : Int))) > (9 : Int))) then (some ⟨Out.ret (V.tup [V.int .i64 (0 : Int), V.int .i64 (10 : Int)]), [], none⟩) else (bif (decide (i1 > (IntKind.wrap IntKind.u64 (Int.tdiv (IntKind.wrap IntKind.u64 ((9223372036854775808 : Int) - (IntKind.wrap IntKind.u64 ((IntKind.wrap IntKind.u64 (byteAt s0 (Int.toNat i3))) - (48 : Int))))) (10 : Int))))) then (some ⟨Out.ret (V.tup [V.int .i64 (0 : Int), V.int .i64 (10 : Int)]), [], none⟩) else (L1_0_1_1_1_1_1_0_1_0v3 s0 (IntKind.wrap IntKind.u64 ((IntKind.wrap IntKind.u64 (i1 * (10 : Int))) + (IntKind.wrap IntKind.u64 ((IntKind.wrap IntKind.u64 (byteAt s0 (Int.toNat i3))) - (48 : Int))))) b2 (IntKind.wrap .i64 (i3 + (1 : Int))))))) else none) else none) else (bif (!b2) then (some ⟨Out.ret (V.tup [V.int .i64 (0 : Int), V.int .i64 (10 : Int)]), [], none⟩) else (bif (i1 == (9223372036854775808 : Int)) then (some ⟨Out.ret (V.tup [V.int .i64 (0 : Int), V.int .i64 (10 : Int)]), [], none⟩) else (some ⟨Out.ret (V.tup [V.int .i64 (IntKind.wrap .i64 i1), V.int .i64 (0 : Int)]), [], none⟩)))) else (bif (!b2) then (some ⟨Out.ret (V.tup [V.int .i64 (0 : Int), V.int .i64 (10 : Int)]), [], none⟩) else (bif (i1 == (9223372036854775808 : Int)) then (some ⟨Out.ret (V.tup [V.int .i64 (0 : Int), V.int .i64 (10 : Int)]), [], none⟩) else (some ⟨Out.ret (V.tup [V.int .i64 (IntKind.wrap .i64 i1), V.int .i64 (0 : Int)]), [], none⟩)))) := (LP_eq ..).trans (by kernel_rfl)
theorem eq (a0 : ByteArray) : den Sp id [V.str a0] [] none =
  (bif (!(decide (a0 = (ByteArray.mk #[])))) then (if (((0 : Int) <= (0 : Int)) ∧ ((0 : Int) < (((ByteArray.size a0) : Nat) : Int))) then (bif ((byteAt a0 0) == (45 : Int)) then (if ((1 <= (ByteArray.size a0)) ∧ ((ByteArray.size a0) <= (ByteArray.size a0))) then (bif (!(decide ((ByteArray.extract a0 1 (ByteArray.size a0)) = (ByteArray.mk #[])))) then (if (((0 : Int) <= (0 : Int)) ∧ ((0 : Int) < (((ByteArray.size (ByteArray.extract a0 1 (ByteArray.size a0))) : Nat) : Int))) then (bif ((byteAt (ByteArray.extract a0 1 (ByteArray.size a0)) 0) != (48 : Int)) then (L1_0_1_1_1_1_1_0_1_0 (ByteArray.extract a0 1 (ByteArray.size a0)) (0 : Int) (0 : Int)) else (L1_0_1_1_1_1_1_0_1_0v1 (ByteArray.extract a0 1 (ByteArray.size a0)) (0 : Int) ((((ByteArray.size a0) : Nat) : Int) == (1 : Int)) (0 : Int))) else none) else (L1_0_1_1_1_1_1_0_1_0v1 (ByteArray.extract a0 1 (ByteArray.size a0)) (0 : Int) false (0 : Int))) else none) else (bif (!(decide (a0 = (ByteArray.mk #[])))) then (if (((0 : Int) <= (0 : Int)) ∧ ((0 : Int) < (((ByteArray.size a0) : Nat) : Int))) then (bif ((byteAt a0 0) != (48 : Int)) then (L1_0_1_1_1_1_1_0_1_0v2 a0 (0 : Int) (0 : Int)) else (L1_0_1_1_1_1_1_0_1_0v3 a0 (0 : Int) ((((ByteArray.size a0) : Nat) : Int) == (1 : Int)) (0 : Int))) else none) else (L1_0_1_1_1_1_1_0_1_0v3 a0 (0 : Int) false (0 : Int)))) else none) else (bif (!(decide (a0 = (ByteArray.mk #[])))) then (if (((0 : Int) <= (0 : Int)) ∧ ((0 : Int) < (((ByteArray.size a0) : Nat) : Int))) then (bif ((byteAt a0 0) != (48 : Int)) then (L1_0_1_1_1_1_1_0_1_0v2 a0 (0 : Int) (0 : Int)) else (L1_0_1_1_1_1_1_0_1_0v3 a0 (0 : Int) ((((ByteArray.size a0) : Nat) : Int) == (1 : Int)) (0 : Int))) else none) else (L1_0_1_1_1_1_1_0_1_0v3 a0 (0 : Int) false (0 : Int)))) := (den_eq ..).trans (by kernel_rfl)
end num_Parse
namespace lex_Right
noncomputable abbrev e (p : List Nat) := ev Sp (den Sp) id Tryd.f57.ntmps (cAt (bodyOf Tryd.f57) p)
noncomputable abbrev cn (n0 : List Nat) := canon Sp id n0
noncomputable abbrev K : K := kFin Sp (den Sp) Tryd.f57 0
noncomputable def L1_0_1_0 (l0 l1 : List (List V)) (i2 i3 : Int) : Option Res := LP (e [1, 0, 1, 0, 0]) (cn []) (kBlk 0 (kSeq (e [1, 1]) (K))) ([(0, (V.sl .no T_api_Token l0)), (7, (V.sl .no T_api_Token l1)), (8, (V.int .i64 i2)), (9, (V.int .i64 i3))], ⟨[], [], [], [], none⟩)
theorem L1_0_1_0_eq (l0 l1 : List (List V)) (i2 i3 : Int) : L1_0_1_0 l0 l1 i2 i3 =
  (bif (decide (i3 < i2)) then (if (((0 : Int) <= i3) ∧ (i3 < (l1.length : Int))) then (V.asInt (List.getD (List.getD l1 (Int.toNat i3) []) 0 V.undef) .i64 (fun n9 => V.asStr (List.getD (List.getD l1 (Int.toNat i3) []) 1 V.undef) (fun s10 => V.asInt (List.getD (List.getD l1 (Int.toNat i3) []) 2 V.undef) .i64 (fun n11 => V.asInt (List.getD (List.getD l1 (Int.toNat i3) []) 3 V.undef) .i64 (fun n12 => bif (i3 == (IntKind.wrap .i64 ((l0.length : Int) - (1 : Int)))) then (bif (n9 == (0 : Int)) then (bif (decide (s10 = (ByteArray.mk #[]))) then (some ⟨Out.ret (V.bool (n11 == (0 : Int))), [], none⟩) else (some ⟨Out.ret (V.bool false), [], none⟩)) else (some ⟨Out.ret (V.bool false), [], none⟩)) else (den Sp lex_written.id [V.agg [V.int .i64 n9, V.str s10, V.int .i64 n11, V.int .i64 n12]] [] none).bind (fun r15 => Res.onRet r15 (fun v16 => V.asTup v16 2 (fun rd17 => V.asStr (rd17 0) (fun s18 => V.asBool (rd17 1) (fun b19 => bif (!b19) then (some ⟨Out.ret (V.bool false), [], none⟩) else (L1_0_1_0 l0 l1 i2 (IntKind.wrap .i64 (i3 + (1 : Int)))))))))))))) else none) else (some ⟨Out.ret (V.bool false), [], none⟩)) := (LP_eq ..).trans (by kernel_rfl)
theorem eq (a0 : (List (List V))) : den Sp id [V.sl .no T_api_Token a0] [] none =
  (L1_0_1_0 a0 a0 (a0.length : Int) (0 : Int)) := (den_eq ..).trans (by kernel_rfl)
end lex_Right
namespace lex_written
theorem eq (a0_0 : Int) (a0_1 : ByteArray) (a0_2 a0_3 : Int) : den Sp id [V.agg [V.int .i64 a0_0, V.str a0_1, V.int .i64 a0_2, V.int .i64 a0_3]] [] none =
  (bif (a0_0 == (1 : Int)) then (bif (a0_2 == (0 : Int)) then (den Sp lex_IsName.id [V.str a0_1] [] none).bind (fun r8 => Res.onRet r8 (fun v9 => V.asBool v9 (fun b10 => some ⟨Out.ret (V.tup [V.str a0_1, V.bool b10]), [], none⟩))) else (some ⟨Out.ret (V.tup [V.str a0_1, V.bool false]), [], none⟩)) else (bif (a0_0 == (3 : Int)) then (bif (a0_2 == (0 : Int)) then (den Sp lex_isKey.id [V.str a0_1] [] none).bind (fun r9 => Res.onRet r9 (fun v10 => V.asBool v10 (fun b11 => some ⟨Out.ret (V.tup [V.str a0_1, V.bool b11]), [], none⟩))) else (some ⟨Out.ret (V.tup [V.str a0_1, V.bool false]), [], none⟩)) else (bif (a0_0 == (4 : Int)) then (bif (a0_2 == (0 : Int)) then (bif (!(decide (a0_1 = (ByteArray.mk #[])))) then (den Sp lex_sign.id [V.str a0_1] [] none).bind (fun r10 => Res.onRet r10 (fun v11 => V.asStr v11 (fun s12 => some ⟨Out.ret (V.tup [V.str a0_1, V.bool (decide (s12 = a0_1))]), [], none⟩))) else (some ⟨Out.ret (V.tup [V.str a0_1, V.bool false]), [], none⟩)) else (some ⟨Out.ret (V.tup [V.str a0_1, V.bool false]), [], none⟩)) else (bif (a0_0 == (2 : Int)) then (den Sp num_Text.id [V.int .i64 a0_2] [] none).bind (fun r11 => Res.onRet r11 (fun v12 => V.asStr v12 (fun s13 => bif (decide (a0_1 = (ByteArray.mk #[]))) then (some ⟨Out.ret (V.tup [V.str s13, V.bool (decide (a0_2 >= (0 : Int)))]), [], none⟩) else (some ⟨Out.ret (V.tup [V.str s13, V.bool false]), [], none⟩)))) else (some ⟨Out.ret (V.tup [V.str (ByteArray.mk #[]), V.bool false]), [], none⟩))))) := (den_eq ..).trans (by kernel_rfl)
end lex_written
end Go.Proofs.YtmhnmelaodhemaaDoor
namespace Go.Proofs.YtmhnmelaodhemaaDoor
open Go Go.Proofs.Ab Go.Proofs.Px
theorem dgt_w (u : Nat) : IntKind.wrap IntKind.u8 (IntKind.wrap IntKind.u64 ((48 : Int) + (Int.tmod (u : Int) (10 : Int)))) = ((dgt u).toNat : Int) := by
 rw [dgt_nat, Int.tmod_eq_emod_of_nonneg (by omega), IntKind.wrap_u64, IntKind.wrap_u8]
 omega
theorem div_w (u : Nat) (h : u < 18446744073709551616) : IntKind.wrap IntKind.u64 (Int.tdiv (u : Int) (10 : Int)) = ((u / 10 : Nat) : Int) := by
 rw [Int.tdiv_eq_ediv_of_nonneg (by omega), IntKind.wrap_u64]
 omega
def sgn (n : Int) (l : List UInt8) : List UInt8 := if n < 0 then 45 :: l else l
theorem set_drop (l : List (List V)) (k : Nat) (x : List V) (h : k < l.length) : (l.set k x).drop k = x :: l.drop (k + 1) := by
 rw [List.drop_set, if_neg (by omega), Nat.sub_self, List.drop_eq_getElem_cons h]
 rfl
theorem text_loop (n : Int) (f : Nat) : ∀ (k u : Nat) (acc : List UInt8) (l : List (List V)), u < 10 ^ f -> u < 18446744073709551616 -> 0 < f -> f + 1 <= k -> k <= 20 -> l.length = 20 -> l.drop k = bv acc ->
  num_Text.L1_1_1_1_1_0_0 n (k : Int) (u : Int) l = some ⟨.ret (.str (B (sgn n (decGo f u acc)))), [], none⟩ := by
 induction f with
 | zero => intro _ _ _ _ _ _ h; omega
 | succ f ih =>
  intro k u acc l hu hu6 hf0 hk hk2 hl hd
  obtain ⟨k, rfl⟩ : ∃ j, k = j + 1 := ⟨k - 1, by omega⟩
  have w1 : IntKind.wrap IntKind.i64 (((k + 1 : Nat) : Int) - 1) = (k : Int) := by rw [wrap_in (by omega) (by omega)]; omega
  have c1 : ((0 : Int) <= (k : Int)) ∧ (((k : Int) < ((20 : Nat) : Int)) ∧ ((k : Int) < ((l.length : Nat) : Int))) := by rw [hl]; omega
  have hset : (l.set k [V.int .u8 ((dgt u).toNat : Int)]).drop k = bv (dgt u :: acc) := by
   rw [set_drop l k _ (by omega), hd]; rfl
  have hlen : (l.set k [V.int .u8 ((dgt u).toNat : Int)]).length = 20 := by rw [List.length_set]; exact hl
  have tk : ∀ (m : List (List V)) (j : Nat) (t : List UInt8), m.length = 20 -> j <= 20 -> m.drop j = bv t -> m.drop j = bv t ∧ (m.drop j).take (20 - j) = bv t := fun m j t h1 h2 h3 =>
   ⟨h3, by rw [List.take_of_length_le (by rw [List.length_drop]; omega), h3]⟩
  rw [num_Text.L1_1_1_1_1_0_0_eq, w1, if_pos c1, dgt_w, div_w u hu6, Int.toNat_natCast]
  unfold decGo
  by_cases h0 : u / 10 = 0
  ·rw [if_pos h0, h0, show (((0 : Nat) : Int) == (0 : Int)) = true from rfl, cond_true]
   by_cases hn : n < 0
   ·obtain ⟨k, rfl⟩ : ∃ j, k = j + 1 := ⟨k - 1, by omega⟩
    have w2 : IntKind.wrap IntKind.i64 (((k + 1 : Nat) : Int) - 1) = (k : Int) := by rw [wrap_in (by omega) (by omega)]; omega
    have hset2 : ((l.set (k + 1) [V.int .u8 ((dgt u).toNat : Int)]).set k [V.int .u8 45]).drop k = bv (45 :: dgt u :: acc) := by
     rw [set_drop _ k _ (by omega), hset]; rfl
    have hlen2 : ((l.set (k + 1) [V.int .u8 ((dgt u).toNat : Int)]).set k [V.int .u8 45]).length = 20 := by rw [List.length_set]; exact hlen
    have ht := tk _ k _ hlen2 (by omega) hset2
    rw [decide_eq_true hn, cond_true, w2, if_pos (by rw [hlen]; omega), if_pos (by omega), Int.toNat_natCast, hlen2, if_pos (by omega), ht.2, bytesOk_bv, if_pos ⟨rfl, by omega⟩, toBytes_bv]
    unfold sgn
    rw [if_pos hn]
    rfl
   ·have ht := tk _ k _ hlen (by omega) hset
    rw [decide_eq_false hn, cond_false, if_pos (by omega), hlen, if_pos (by omega), ht.2, bytesOk_bv, if_pos ⟨rfl, by omega⟩, toBytes_bv]
    unfold sgn
    rw [if_neg hn]
    rfl
  ·have h1 : u / 10 < 10 ^ f := by
    rw [Nat.pow_succ] at hu
    omega
   have hf : 0 < f := by
    rcases Nat.eq_zero_or_pos f with rfl | h2
    ·simp at h1; omega
    ·exact h2
   rw [if_neg h0, beq_eq_false_iff_ne.2 (by omega), cond_false]
   exact ih k (u / 10) (dgt u :: acc) _ h1 (by omega) hf (by omega) (by omega) hlen hset
theorem num_Text_is (n : Int) (h0 : -9223372036854775808 <= n) (h1 : n <= 9223372036854775807) : den Sp num_Text.id [.int .i64 n] [] none = some ⟨.ret (.str (B (decs n))), [], none⟩ := by
 have h19 : (10 : Nat) ^ 19 = 10000000000000000000 := by decide
 have hb : n.natAbs < 10 ^ 19 := by rw [h19]; omega
 have hz : ∀ u : Nat, u = n.natAbs -> num_Text.L1_1_1_1_1_0_0 n (20 : Int) (u : Int) [[(V.int IntKind.u8 (0 : Int))], [(V.int IntKind.u8 (0 : Int))], [(V.int IntKind.u8 (0 : Int))], [(V.int IntKind.u8 (0 : Int))], [(V.int IntKind.u8 (0 : Int))], [(V.int IntKind.u8 (0 : Int))], [(V.int IntKind.u8 (0 : Int))], [(V.int IntKind.u8 (0 : Int))], [(V.int IntKind.u8 (0 : Int))], [(V.int IntKind.u8 (0 : Int))], [(V.int IntKind.u8 (0 : Int))], [(V.int IntKind.u8 (0 : Int))], [(V.int IntKind.u8 (0 : Int))], [(V.int IntKind.u8 (0 : Int))], [(V.int IntKind.u8 (0 : Int))], [(V.int IntKind.u8 (0 : Int))], [(V.int IntKind.u8 (0 : Int))], [(V.int IntKind.u8 (0 : Int))], [(V.int IntKind.u8 (0 : Int))], [(V.int IntKind.u8 (0 : Int))]] =
   some ⟨.ret (.str (B (decs n))), [], none⟩ := by
  rintro u rfl
  have := text_loop n 19 20 n.natAbs [] _ hb (by omega) (by omega) (by omega) (by omega) (show List.length [[(V.int IntKind.u8 (0 : Int))], [(V.int IntKind.u8 (0 : Int))], [(V.int IntKind.u8 (0 : Int))], [(V.int IntKind.u8 (0 : Int))], [(V.int IntKind.u8 (0 : Int))], [(V.int IntKind.u8 (0 : Int))], [(V.int IntKind.u8 (0 : Int))], [(V.int IntKind.u8 (0 : Int))], [(V.int IntKind.u8 (0 : Int))], [(V.int IntKind.u8 (0 : Int))], [(V.int IntKind.u8 (0 : Int))], [(V.int IntKind.u8 (0 : Int))], [(V.int IntKind.u8 (0 : Int))], [(V.int IntKind.u8 (0 : Int))], [(V.int IntKind.u8 (0 : Int))], [(V.int IntKind.u8 (0 : Int))], [(V.int IntKind.u8 (0 : Int))], [(V.int IntKind.u8 (0 : Int))], [(V.int IntKind.u8 (0 : Int))], [(V.int IntKind.u8 (0 : Int))]] = 20 from rfl) rfl
  refine Eq.trans this ?_
  rw [<- dec_of 19 n.natAbs hb (by omega) (by omega)]
  rfl
 rw [num_Text.eq]
 by_cases hn : n < 0
 ·have e1 : IntKind.wrap IntKind.u64 ((0 : Int) - (IntKind.wrap IntKind.u64 n)) = ((n.natAbs : Nat) : Int) := by rw [IntKind.wrap_u64, IntKind.wrap_u64]; omega
  rw [decide_eq_true hn, cond_true, e1, hz _ rfl]
 ·have e1 : IntKind.wrap IntKind.u64 n = ((n.natAbs : Nat) : Int) := by rw [IntKind.wrap_u64]; omega
  rw [decide_eq_false hn, cond_false, e1, hz _ rfl]
theorem sv_app (l : List (List UInt8)) (w : List UInt8) : sv l ++ [[.str (B w)]] = sv (l ++ [w]) := by simp [sv]
def joinTo (l : List (List UInt8)) (i : Nat) : List UInt8 := joinL (l.take i)
theorem joinL_snoc : ∀ (l : List (List UInt8)) (w : List UInt8), l ≠ [] -> joinL (l ++ [w]) = joinL l ++ 32 :: w
 | [], _, h => absurd rfl h
 | [a], w, _ => by simp [joinL]
 | a :: b :: l, w, _ => by
  have := joinL_snoc (b :: l) w (by simp)
  simp only [List.cons_append] at this ⊢
  simp only [joinL, this, List.append_assoc, List.cons_append]
theorem joinTo_succ {l : List (List UInt8)} {i : Nat} (h : i < l.length) : joinTo l (i + 1) = if i = 0 then (l[i]'h) else joinTo l i ++ 32 :: (l[i]'h) := by
 unfold joinTo
 rw [List.take_succ_eq_append_getElem h]
 by_cases h0 : i = 0
 ·subst h0; rfl
 ·rw [if_neg h0, joinL_snoc]
  intro h1
  have := congrArg List.length h1
  rw [List.length_take, List.length_nil] at this; omega
theorem joinTo_zero (l : List (List UInt8)) : joinTo l 0 = [] := by simp [joinTo, joinL]
theorem joinTo_all (l : List (List UInt8)) : joinTo l l.length = joinL l := by simp [joinTo]
def weighW (l : List (List UInt8)) : Nat := (l.map fun w => 1 + w.length).sum
theorem weighW_take (l : List (List UInt8)) (i : Nat) (h : i < l.length) : weighW (l.take (i + 1)) = weighW (l.take i) + (1 + (l[i]'h).length) := by
 unfold weighW
 rw [List.take_succ_eq_append_getElem h]
 simp only [List.map_append, List.sum_append, List.map_cons, List.map_nil, List.sum_cons, List.sum_nil, Nat.add_zero]
theorem weighW_le (l : List (List UInt8)) (i : Nat) : weighW (l.take i) <= weighW l := by
 have h : weighW l = weighW (l.take i) + weighW (l.drop i) := by
  unfold weighW
  rw [<- List.sum_append, <- List.map_append, List.take_append_drop]
 omega
theorem joinTo_len (l : List (List UInt8)) : ∀ i, i <= l.length -> (joinTo l i).length <= weighW (l.take i)
 | 0, _ => by rw [joinTo_zero]; exact Nat.zero_le _
 | i + 1, h => by
  have ih := joinTo_len l i (by omega)
  rw [joinTo_succ (by omega), weighW_take l i (by omega)]
  split
  ·omega
  ·rw [List.length_append, List.length_cons]; omega
theorem num_Join_is (l : List (List UInt8)) (hl : l.length < 4611686018427387904) (hw : weighW l <= 1099511627776) : den Sp num_Join.id [.sl .no T_string (sv l)] [] none = some ⟨.ret (.str (B (joinL l))), [], none⟩ := by
 rw [num_Join.eq, sv_len]
 have key : ∀ i : Nat, i <= l.length -> num_Join.L1_1_0_1_0 (bv (joinTo l i)) (sv l) (l.length : Int) (i : Int) = some ⟨.ret (.str (B (joinL l))), [], none⟩ := by
  refine down ?_ fun i hi ih => ?_
  ·rw [num_Join.L1_1_0_1_0_eq, decide_eq_false (Int.lt_irrefl _), cond_false, bytesOk_bv, if_pos rfl, toBytes_bv, joinTo_all]
   rfl
  ·have e1 : ((i : Int) < ((l.length : Nat) : Int)) := by omega
   have e2 : (0 : Int) <= (i : Int) ∧ ((i : Int) < ((l.length : Nat) : Int)) := ⟨by omega, e1⟩
   have h1 := joinTo_len l (i + 1) (by omega)
   have h2 := weighW_le l (i + 1)
   have h3 := joinTo_succ hi
   rw [num_Join.L1_1_0_1_0_eq, sv_len, decide_eq_true e1, cond_true, if_pos e2, Int.toNat_natCast, sv_at l i hi, asStr_str, B_size, ofBytes_B, wrap_nat (by omega), bv_length]
   by_cases h0 : i = 0
   ·subst h0
    rw [if_pos rfl] at h3
    rw [joinTo_zero]
    have e4 : ([] : List UInt8).length + (l[0]'hi).length <= most := by
     show 0 + (l[0]'hi).length <= 1099511627776
     rw [h3] at h1; omega
    have e5 : decide (((0 : Nat) : Int) > 0) = false := rfl
    rw [e5, cond_false, if_pos e4, bv_append, List.nil_append, <- h3]
    exact ih
   ·rw [if_neg h0] at h3
    rw [h3, List.length_append, List.length_cons] at h1
    have e3 : ((i : Int) > 0) := by omega
    have e4 : (joinTo l i).length + List.length [[(V.int IntKind.u8 (32 : Int))]] <= most := by
     show (joinTo l i).length + 1 <= 1099511627776
     omega
    have e5 : bv (joinTo l i) ++ [[(V.int IntKind.u8 (32 : Int))]] = bv (joinTo l i ++ [32]) := bv_append (joinTo l i) [32]
    have e6 : (joinTo l i ++ [32]).length + (l[i]'hi).length <= most := by
     show (joinTo l i ++ [32]).length + (l[i]'hi).length <= 1099511627776
     rw [List.length_append, List.length_singleton]; omega
    have e4' : (joinTo l i).length + 1 <= most := e4
    rw [decide_eq_true e3, cond_true]
    first | rw [if_pos e4] | rw [if_pos e4']
    rw [e5, bv_length, if_pos e6, bv_append, List.append_assoc]
    rw [show joinTo l i ++ ([32] ++ (l[i]'hi)) = joinTo l (i + 1) by rw [h3]; rfl]
    exact ih
 have := key 0 (Nat.zero_le _)
 rw [joinTo_zero] at this
 exact this
def levelP (s : List UInt8) : Int :=
 if s = [124, 124] then 1 else if s = [38, 38] then 2 else if s = [61, 61] then 3 else if s = [33, 61] then 3 else if s = [60] then 3 else if s = [60, 61] then 3
 else if s = [43] then 4 else if s = [45] then 4 else if s = [42] then 5 else if s = [47] then 5 else if s = [37] then 5 else 0
def plainK (k : Int) (n : List UInt8) (m : Int) (c : Nat) : Bool :=
 if k = 1 then decide (n = []) && decide (0 <= m) && decide (c = 0)
 else if k = 2 then decide (n = []) && (decide (m = 0) || decide (m = 1)) && decide (c = 0)
 else if k = 3 then decide (n ≠ []) && decide (m = 0) && decide (c = 0)
 else if k = 4 then decide (n ≠ []) && decide (m = 0) && decide (c = 1)
 else if k = 5 then (decide (n = [45]) || decide (n = [33])) && decide (m = 0) && decide (c = 1)
 else if k = 6 then decide (0 < levelP n) && decide (m = 0) && decide (c = 2)
 else false
def namedK (k : Int) (n : List UInt8) : Bool := if k = 3 then isName (B n) else if k = 4 then isName (B n) else true
mutual
def okX : Ex -> Bool
 | .mk k n m l => plainK k n m l.length && namedK k n && okXs l
def okXs : List Ex -> Bool
 | [] => true
 | x :: l => okX x && okXs l
end
def sideW (k : Int) (w : List (List UInt8)) : List (List UInt8) := if k = 6 then [40] :: (w ++ [[41]]) else w
def wK (k : Int) (n : List UInt8) (m : Int) (ws : List (Int × List (List UInt8))) : List (List UInt8) :=
 if k = 1 then [decs m]
 else if k = 2 then [if m = 1 then [116, 114, 117, 101] else [102, 97, 108, 115, 101]]
 else if k = 4 then n :: [91] :: ((ws.headD (0, [])).2 ++ [[93]])
 else if k = 5 then n :: sideW (ws.headD (0, [])).1 (ws.headD (0, [])).2
 else if k = 6 then sideW (ws.headD (0, [])).1 (ws.headD (0, [])).2 ++ n :: sideW (ws.getLastD (0, [])).1 (ws.getLastD (0, [])).2
 else [n]
mutual
def exW : Ex -> List (List UInt8)
 | .mk k n m l => wK k n m (exWs l)
def exWs : List Ex -> List (Int × List (List UInt8))
 | [] => []
 | x :: l => (x.kind, exW x) :: exWs l
end
def sideH (k h : Int) : Int := if k = 6 then h + 1 else h
def hK (k : Int) (hs : List (Int × Int)) : Int :=
 if k = 4 then (hs.headD (0, 0)).2 + 1
 else if k = 5 then sideH (hs.headD (0, 0)).1 (hs.headD (0, 0)).2 + 1
 else if k = 6 then max (sideH (hs.headD (0, 0)).1 (hs.headD (0, 0)).2) (sideH (hs.getLastD (0, 0)).1 (hs.getLastD (0, 0)).2)
 else 0
mutual
def hX : Ex -> Int
 | .mk k n m l => hK k (hXs l)
def hXs : List Ex -> List (Int × Int)
 | [] => []
 | x :: l => (x.kind, hX x) :: hXs l
end
theorem plain_forms {k : Int} {n : List UInt8} {m : Int} {l : List Ex} (h : plainK k n m l.length = true) :
  (k = 1 ∧ n = [] ∧ 0 <= m ∧ l = []) ∨ (k = 2 ∧ n = [] ∧ (m = 0 ∨ m = 1) ∧ l = []) ∨ (k = 3 ∧ n ≠ [] ∧ m = 0 ∧ l = []) ∨ (k = 4 ∧ n ≠ [] ∧ m = 0 ∧ ∃ x, l = [x]) ∨
  (k = 5 ∧ (n = [45] ∨ n = [33]) ∧ m = 0 ∧ ∃ x, l = [x]) ∨ (k = 6 ∧ 0 < levelP n ∧ m = 0 ∧ ∃ x y, l = [x, y]) := by
 have two : l.length = 2 -> ∃ x y, l = [x, y] := fun h => by
  match l, h with
  | [x, y], _ => exact ⟨x, y, rfl⟩
 unfold plainK at h
 split at h
 ·simp only [Bool.and_eq_true, decide_eq_true_eq] at h
  exact .inl ⟨‹_›, h.1.1, h.1.2, List.length_eq_zero_iff.1 h.2⟩
 split at h
 ·simp only [Bool.and_eq_true, Bool.or_eq_true, decide_eq_true_eq] at h
  exact .inr (.inl ⟨‹_›, h.1.1, h.1.2, List.length_eq_zero_iff.1 h.2⟩)
 split at h
 ·simp only [Bool.and_eq_true, decide_eq_true_eq] at h
  exact .inr (.inr (.inl ⟨‹_›, h.1.1, h.1.2, List.length_eq_zero_iff.1 h.2⟩))
 split at h
 ·simp only [Bool.and_eq_true, decide_eq_true_eq] at h
  exact .inr (.inr (.inr (.inl ⟨‹_›, h.1.1, h.1.2, List.length_eq_one_iff.1 h.2⟩)))
 split at h
 ·simp only [Bool.and_eq_true, Bool.or_eq_true, decide_eq_true_eq] at h
  exact .inr (.inr (.inr (.inr (.inl ⟨‹_›, h.1.1, h.1.2, List.length_eq_one_iff.1 h.2⟩))))
 split at h
 ·simp only [Bool.and_eq_true, decide_eq_true_eq] at h
  exact .inr (.inr (.inr (.inr (.inr ⟨‹_›, h.1.1, h.1.2, two h.2⟩))))
 cases h
theorem level_len {n : List UInt8} (h : 0 < levelP n) : 1 <= n.length ∧ n.length <= 2 := by
 unfold levelP at h
 repeat' (split at h; · rename_i e; subst e; decide)
 omega
theorem name_len {n : List UInt8} (h : isName (B n) = true) : n.length <= 40 := by
 unfold isName at h
 simp only [Bool.and_eq_true, decide_eq_true_eq, B_size] at h
 omega
theorem weighW_app (a b : List (List UInt8)) : weighW (a ++ b) = weighW a + weighW b := by
 unfold weighW; rw [List.map_append, List.sum_append]
theorem weighW_cons (a : List UInt8) (b : List (List UInt8)) : weighW (a :: b) = 1 + a.length + weighW b := by
 unfold weighW; rw [List.map_cons, List.sum_cons]
theorem weighW_nil : weighW [] = 0 := rfl
theorem sideW_weigh (k : Int) (w : List (List UInt8)) : weighW (sideW k w) <= weighW w + 4 := by
 unfold sideW
 split
 ·simp only [weighW_cons, weighW_app, weighW_nil, List.length_singleton]; omega
 ·omega
theorem okX_weigh : ∀ x : Ex, okX x = true -> weighW (exW x) <= 60 * x.size ∧ 0 <= hX x ∧ hX x <= 2 * (x.size : Int) := by
 refine Ex.ind fun k n m l ih h => ?_
 rw [okX, Bool.and_eq_true, Bool.and_eq_true] at h
 obtain ⟨⟨h1, h2⟩, h3⟩ := h
 rw [exW, hX, Ex.size]
 unfold wK hK
 rcases plain_forms h1 with ⟨rfl, rfl, hm, rfl⟩ | ⟨rfl, rfl, hm, rfl⟩ | ⟨rfl, hn, rfl, rfl⟩ | ⟨rfl, hn, rfl, x, rfl⟩ | ⟨rfl, hn, rfl, x, rfl⟩ | ⟨rfl, hn, rfl, x, y, rfl⟩
 ·have := decs_len m
  simp [weighW_cons, weighW_nil, Ex.sizes]; omega
 ·by_cases c : m = 1 <;> simp [weighW_cons, weighW_nil, Ex.sizes, c]
 ·have := name_len (n := n) (by simpa [namedK] using h2)
  simp [weighW_cons, weighW_nil, Ex.sizes]; omega
 ·have := name_len (n := n) (by simpa [namedK] using h2)
  obtain ⟨i1, i2, i3⟩ := ih x (by simp) (by simpa [okXs] using h3)
  simp [weighW_cons, weighW_nil, weighW_app, Ex.sizes, exWs, hXs]; omega
 ·obtain ⟨i1, i2, i3⟩ := ih x (by simp) (by simpa [okXs] using h3)
  have hl : n.length = 1 := by rcases hn with rfl | rfl <;> rfl
  have := sideW_weigh x.kind (exW x)
  simp [weighW_cons, weighW_nil, weighW_app, Ex.sizes, exWs, hXs]
  unfold sideH
  split <;> omega
 ·rw [okXs, okXs, okXs, Bool.and_true, Bool.and_eq_true] at h3
  obtain ⟨i1, i2, i3⟩ := ih x (by simp) h3.1
  obtain ⟨j1, j2, j3⟩ := ih y (by simp) h3.2
  have := level_len hn
  have := sideW_weigh x.kind (exW x)
  have := sideW_weigh y.kind (exW y)
  simp [weighW_cons, weighW_nil, weighW_app, Ex.sizes, exWs, hXs]
  unfold sideH
  split <;> split <;> omega
def prX (x : Ex) : List UInt8 × Int := if okX x then (if 60 < 1 + hX x then ([], 31) else (joinL (exW x), 0)) else ([], 32)
theorem joinL_cons (a : List UInt8) : ∀ {l : List (List UInt8)}, l ≠ [] -> joinL (a :: l) = a ++ 32 :: joinL l
 | [], h => absurd rfl h
 | b :: l, _ => rfl
theorem joinL_app : ∀ (a : List (List UInt8)) {b : List (List UInt8)}, a ≠ [] -> b ≠ [] -> joinL (a ++ b) = joinL a ++ 32 :: joinL b
 | [], _, h, _ => absurd rfl h
 | [x], b, _, hb => joinL_cons x hb
 | x :: y :: l, b, _, hb => by
  have := joinL_app (y :: l) (by simp) hb
  rw [List.cons_append, joinL_cons x (by simp), this, joinL_cons x (by simp), List.append_assoc, List.cons_append]
theorem joinL_len (l : List (List UInt8)) : (joinL l).length <= weighW l := by
 have := joinTo_len l l.length (Nat.le_refl _)
 rwa [joinTo_all, List.take_length] at this
theorem exW_ne (x : Ex) : exW x ≠ [] := by
 cases x with
 | mk k n m l =>
  rw [exW]; unfold wK
  split
  ·simp
  split
  ·simp
  split
  ·simp
  split
  ·simp
  split
  ·simp
  ·simp
structure Pai where
 procA : List UInt8
 procB : List UInt8
 varA : List UInt8
 varB : List UInt8
 deriving DecidableEq
def Pai.v (x : Pai) : List V := [.str (B x.procA), .str (B x.procB), .str (B x.varA), .str (B x.varB)]
theorem Pai.v_mk (procA : List UInt8) (procB : List UInt8) (varA : List UInt8) (varB : List UInt8) : Pai.v ⟨procA, procB, varA, varB⟩ = [.str (B procA), .str (B procB), .str (B varA), .str (B varB)] := rfl
@[simp] theorem Pai.asAgg_v (x : Pai) (k : (Nat -> V) -> Option Res) : V.asAgg (.agg x.v) 4 k = k (fun j => x.v.getD j .undef) := asAgg_agg _ _ rfl k
@[simp] theorem Pai.v_0 (x : Pai) : x.v.getD 0 .undef = .str (B x.procA) := rfl
@[simp] theorem Pai.q_0 (x : Pai) : x.v[0]?.getD V.undef = .str (B x.procA) := rfl
@[simp] theorem Pai.v_1 (x : Pai) : x.v.getD 1 .undef = .str (B x.procB) := rfl
@[simp] theorem Pai.q_1 (x : Pai) : x.v[1]?.getD V.undef = .str (B x.procB) := rfl
@[simp] theorem Pai.v_2 (x : Pai) : x.v.getD 2 .undef = .str (B x.varA) := rfl
@[simp] theorem Pai.q_2 (x : Pai) : x.v[2]?.getD V.undef = .str (B x.varA) := rfl
@[simp] theorem Pai.v_3 (x : Pai) : x.v.getD 3 .undef = .str (B x.varB) := rfl
@[simp] theorem Pai.q_3 (x : Pai) : x.v[3]?.getD V.undef = .str (B x.varB) := rfl
structure PaiOk (x : Pai) : Prop where
 procA : x.procA.length <= 140737488351232
 procB : x.procB.length <= 140737488351232
 varA : x.varA.length <= 140737488351232
 varB : x.varB.length <= 140737488351232
structure Kp where
 side : Int
 prc : List UInt8
 vr : List UInt8
 deriving DecidableEq
def Kp.v (x : Kp) : List V := [.int .i64 x.side, .str (B x.prc), .str (B x.vr)]
theorem Kp.v_mk (side : Int) (prc : List UInt8) (vr : List UInt8) : Kp.v ⟨side, prc, vr⟩ = [.int .i64 side, .str (B prc), .str (B vr)] := rfl
@[simp] theorem Kp.asAgg_v (x : Kp) (k : (Nat -> V) -> Option Res) : V.asAgg (.agg x.v) 3 k = k (fun j => x.v.getD j .undef) := asAgg_agg _ _ rfl k
@[simp] theorem Kp.v_0 (x : Kp) : x.v.getD 0 .undef = .int .i64 x.side := rfl
@[simp] theorem Kp.q_0 (x : Kp) : x.v[0]?.getD V.undef = .int .i64 x.side := rfl
@[simp] theorem Kp.v_1 (x : Kp) : x.v.getD 1 .undef = .str (B x.prc) := rfl
@[simp] theorem Kp.q_1 (x : Kp) : x.v[1]?.getD V.undef = .str (B x.prc) := rfl
@[simp] theorem Kp.v_2 (x : Kp) : x.v.getD 2 .undef = .str (B x.vr) := rfl
@[simp] theorem Kp.q_2 (x : Kp) : x.v[2]?.getD V.undef = .str (B x.vr) := rfl
structure KpOk (x : Kp) : Prop where
 side : (Lit.int .i64 x.side).wf = true
 prc : x.prc.length <= 140737488351232
 vr : x.vr.length <= 140737488351232
structure Bk where
 side : Int
 prc : List UInt8
 mark : Int
 whn : List Ex
def Bk.v (x : Bk) : List V := [.int .i64 x.side, .str (B x.prc), .int .i64 x.mark, .sl .no T_api_Expr (x.whn.map Ex.v)]
theorem Bk.v_mk (side : Int) (prc : List UInt8) (mark : Int) (whn : List Ex) : Bk.v ⟨side, prc, mark, whn⟩ = [.int .i64 side, .str (B prc), .int .i64 mark, .sl .no T_api_Expr (whn.map Ex.v)] := rfl
@[simp] theorem Bk.asAgg_v (x : Bk) (k : (Nat -> V) -> Option Res) : V.asAgg (.agg x.v) 4 k = k (fun j => x.v.getD j .undef) := asAgg_agg _ _ rfl k
@[simp] theorem Bk.v_0 (x : Bk) : x.v.getD 0 .undef = .int .i64 x.side := rfl
@[simp] theorem Bk.q_0 (x : Bk) : x.v[0]?.getD V.undef = .int .i64 x.side := rfl
@[simp] theorem Bk.v_1 (x : Bk) : x.v.getD 1 .undef = .str (B x.prc) := rfl
@[simp] theorem Bk.q_1 (x : Bk) : x.v[1]?.getD V.undef = .str (B x.prc) := rfl
@[simp] theorem Bk.v_2 (x : Bk) : x.v.getD 2 .undef = .int .i64 x.mark := rfl
@[simp] theorem Bk.q_2 (x : Bk) : x.v[2]?.getD V.undef = .int .i64 x.mark := rfl
@[simp] theorem Bk.v_3 (x : Bk) : x.v.getD 3 .undef = .sl .no T_api_Expr (x.whn.map Ex.v) := rfl
@[simp] theorem Bk.q_3 (x : Bk) : x.v[3]?.getD V.undef = .sl .no T_api_Expr (x.whn.map Ex.v) := rfl
structure BkOk (x : Bk) : Prop where
 side : (Lit.int .i64 x.side).wf = true
 prc : x.prc.length <= 140737488351232
 mark : (Lit.int .i64 x.mark).wf = true
 whn : x.whn.length <= 140737488351232 ∧ ∀ y ∈ x.whn, ExOk y
structure Wt where
 side : Int
 prc : List UInt8
 vr : List UInt8
 deriving DecidableEq
def Wt.v (x : Wt) : List V := [.int .i64 x.side, .str (B x.prc), .str (B x.vr)]
theorem Wt.v_mk (side : Int) (prc : List UInt8) (vr : List UInt8) : Wt.v ⟨side, prc, vr⟩ = [.int .i64 side, .str (B prc), .str (B vr)] := rfl
@[simp] theorem Wt.asAgg_v (x : Wt) (k : (Nat -> V) -> Option Res) : V.asAgg (.agg x.v) 3 k = k (fun j => x.v.getD j .undef) := asAgg_agg _ _ rfl k
@[simp] theorem Wt.v_0 (x : Wt) : x.v.getD 0 .undef = .int .i64 x.side := rfl
@[simp] theorem Wt.q_0 (x : Wt) : x.v[0]?.getD V.undef = .int .i64 x.side := rfl
@[simp] theorem Wt.v_1 (x : Wt) : x.v.getD 1 .undef = .str (B x.prc) := rfl
@[simp] theorem Wt.q_1 (x : Wt) : x.v[1]?.getD V.undef = .str (B x.prc) := rfl
@[simp] theorem Wt.v_2 (x : Wt) : x.v.getD 2 .undef = .str (B x.vr) := rfl
@[simp] theorem Wt.q_2 (x : Wt) : x.v[2]?.getD V.undef = .str (B x.vr) := rfl
structure WtOk (x : Wt) : Prop where
 side : (Lit.int .i64 x.side).wf = true
 prc : x.prc.length <= 140737488351232
 vr : x.vr.length <= 140737488351232
structure Fl where
 pairs : List Pai
 sames : List Pai
 keeps : List Kp
 breaks : List Bk
 watches : List Wt
def Fl.v (x : Fl) : List V := [.sl .no T_api_Pair (x.pairs.map Pai.v), .sl .no T_api_Pair (x.sames.map Pai.v), .sl .no T_parallaxref12_Keep (x.keeps.map Kp.v), .sl .no T_parallaxref12_Break (x.breaks.map Bk.v), .sl .no T_parallaxref12_Watch (x.watches.map Wt.v)]
theorem Fl.v_mk (pairs : List Pai) (sames : List Pai) (keeps : List Kp) (breaks : List Bk) (watches : List Wt) : Fl.v ⟨pairs, sames, keeps, breaks, watches⟩ = [.sl .no T_api_Pair (pairs.map Pai.v), .sl .no T_api_Pair (sames.map Pai.v), .sl .no T_parallaxref12_Keep (keeps.map Kp.v), .sl .no T_parallaxref12_Break (breaks.map Bk.v), .sl .no T_parallaxref12_Watch (watches.map Wt.v)] := rfl
@[simp] theorem Fl.asAgg_v (x : Fl) (k : (Nat -> V) -> Option Res) : V.asAgg (.agg x.v) 5 k = k (fun j => x.v.getD j .undef) := asAgg_agg _ _ rfl k
@[simp] theorem Fl.v_0 (x : Fl) : x.v.getD 0 .undef = .sl .no T_api_Pair (x.pairs.map Pai.v) := rfl
@[simp] theorem Fl.q_0 (x : Fl) : x.v[0]?.getD V.undef = .sl .no T_api_Pair (x.pairs.map Pai.v) := rfl
@[simp] theorem Fl.v_1 (x : Fl) : x.v.getD 1 .undef = .sl .no T_api_Pair (x.sames.map Pai.v) := rfl
@[simp] theorem Fl.q_1 (x : Fl) : x.v[1]?.getD V.undef = .sl .no T_api_Pair (x.sames.map Pai.v) := rfl
@[simp] theorem Fl.v_2 (x : Fl) : x.v.getD 2 .undef = .sl .no T_parallaxref12_Keep (x.keeps.map Kp.v) := rfl
@[simp] theorem Fl.q_2 (x : Fl) : x.v[2]?.getD V.undef = .sl .no T_parallaxref12_Keep (x.keeps.map Kp.v) := rfl
@[simp] theorem Fl.v_3 (x : Fl) : x.v.getD 3 .undef = .sl .no T_parallaxref12_Break (x.breaks.map Bk.v) := rfl
@[simp] theorem Fl.q_3 (x : Fl) : x.v[3]?.getD V.undef = .sl .no T_parallaxref12_Break (x.breaks.map Bk.v) := rfl
@[simp] theorem Fl.v_4 (x : Fl) : x.v.getD 4 .undef = .sl .no T_parallaxref12_Watch (x.watches.map Wt.v) := rfl
@[simp] theorem Fl.q_4 (x : Fl) : x.v[4]?.getD V.undef = .sl .no T_parallaxref12_Watch (x.watches.map Wt.v) := rfl
structure FlOk (x : Fl) : Prop where
 pairs : x.pairs.length <= 140737488351232 ∧ ∀ y ∈ x.pairs, PaiOk y
 sames : x.sames.length <= 140737488351232 ∧ ∀ y ∈ x.sames, PaiOk y
 keeps : x.keeps.length <= 140737488351232 ∧ ∀ y ∈ x.keeps, KpOk y
 breaks : x.breaks.length <= 140737488351232 ∧ ∀ y ∈ x.breaks, BkOk y
 watches : x.watches.length <= 140737488351232 ∧ ∀ y ∈ x.watches, WtOk y
theorem Pai.bytes : decide (Program.bytesOf Sp.P T_api_Pair >= 1) = true := by kernel_rfl
theorem Kp.bytes : decide (Program.bytesOf Sp.P T_parallaxref12_Keep >= 1) = true := by kernel_rfl
theorem Bk.bytes : decide (Program.bytesOf Sp.P T_parallaxref12_Break >= 1) = true := by kernel_rfl
theorem Wt.bytes : decide (Program.bytesOf Sp.P T_parallaxref12_Watch >= 1) = true := by kernel_rfl
def Bk.sizes : List Bk -> Nat
 | [] => 0
 | b :: l => 1 + b.whn.length + Ex.sizes b.whn + Bk.sizes l
theorem Bk.sizes_drop {l : List Bk} {i : Nat} (h : i < l.length) : Bk.sizes (l.drop i) = 1 + l[i].whn.length + Ex.sizes l[i].whn + Bk.sizes (l.drop (i + 1)) := by
 rw [List.drop_eq_getElem_cons h, Bk.sizes]
theorem Bk.sizes_mem : ∀ {l : List Bk} {b : Bk}, b ∈ l -> b.whn.length + Ex.sizes b.whn <= Bk.sizes l
 | x :: l, b, h => by
  rw [Bk.sizes]
  rcases List.mem_cons.1 h with rfl | h
  ·omega
  ·have := Bk.sizes_mem h; omega
def Pai.len (p : Pai) : Nat := p.procA.length / 8 + p.procB.length / 8 + p.varA.length / 8 + p.varB.length / 8
def Pai.lens : List Pai -> Nat
 | [] => 0
 | p :: l => p.len + Pai.lens l
structure NotGreat (f : Fl) : Prop where
 num : f.pairs.length + f.sames.length + f.keeps.length + f.watches.length + Bk.sizes f.breaks <= 600
 pairs : Pai.lens f.pairs <= 600
 sames : Pai.lens f.sames <= 600
def Fl.ov (f : Fl) : List V := [.sl .no T_api_Pair (f.pairs.map Pai.v), .sl .no T_api_Pair (f.sames.map Pai.v), .sl .no T_decl_Keep (f.keeps.map Kp.v), .sl .no T_decl_Break (f.breaks.map Bk.v), .sl .no T_decl_Watch (f.watches.map Wt.v)]
def isN (s : List UInt8) : Bool := isName (B s)
def nb (l : List (List UInt8)) : Bool := l.any fun s => !isN s && !decide (s = [40]) && !decide (s = [41])
def sideT (n : Int) : List UInt8 := if n = 1 then [114, 105, 103, 104, 116] else [108, 101, 102, 116]
def sideK (n : Int) : Bool := decide (n = 0) || decide (n = 1)
def pairW (p : Pai) : List (List UInt8) := [[112, 97, 105, 114], p.procA, p.procB, [59]]
def sameW (p : Pai) : List (List UInt8) := [[115, 97, 109, 101], p.procA, [40], p.varA, [41], p.procB, [40], p.varB, [41], [59]]
def keepW (k : Kp) : List (List UInt8) := [[107, 101, 101, 112], sideT k.side, k.prc, k.vr, [59]]
def whenW : List Ex -> List (List UInt8)
 | [] => []
 | x :: l => [119, 104, 101, 110] :: (prX x).1 :: whenW l
def breakW (b : Bk) : List (List UInt8) := [98, 114, 101, 97, 107] :: sideT b.side :: b.prc :: decs b.mark :: (whenW b.whn ++ [[59]])
def watchW (k : Wt) : List (List UInt8) := [[119, 97, 116, 99, 104], sideT k.side, k.prc, k.vr, [59]]
def okPair (p : Pai) : Bool := isN p.procA && isN p.procB && decide (p.varA = []) && decide (p.varB = [])
def okSame (p : Pai) : Bool := isN p.procA && isN p.procB && isN p.varA && isN p.varB
def okKeep (k : Kp) : Bool := isN k.prc && isN k.vr && sideK k.side
def okWhen : List Ex -> Bool
 | [] => true
 | x :: l => decide ((prX x).2 = 0) && okWhen l
def okBreak (b : Bk) : Bool := isN b.prc && sideK b.side && decide (0 <= b.mark) && decide (b.whn.length < 2) && okWhen b.whn
def okWatch (k : Wt) : Bool := isN k.prc && isN k.vr && sideK k.side
def linesW {α : Type} (w : α -> List (List UInt8)) : List α -> List (List UInt8)
 | [] => []
 | x :: l => w x ++ linesW w l
def allK {α : Type} (o : α -> Bool) : List α -> Bool
 | [] => true
 | x :: l => o x && allK o l
theorem linesW_drop {α : Type} {w : α -> List (List UInt8)} {l : List α} {i : Nat} (h : i < l.length) : linesW w (l.drop i) = w l[i] ++ linesW w (l.drop (i + 1)) := by
 rw [List.drop_eq_getElem_cons h, linesW]
theorem allK_drop {α : Type} {o : α -> Bool} {l : List α} {i : Nat} (h : i < l.length) : allK o (l.drop i) = (o l[i] && allK o (l.drop (i + 1))) := by
 rw [List.drop_eq_getElem_cons h, allK]
def fileW (f : Fl) : List (List UInt8) := linesW pairW f.pairs ++ (linesW sameW f.sames ++ (linesW keepW f.keeps ++ (linesW breakW f.breaks ++ linesW watchW f.watches)))
def okFile (f : Fl) : Bool := allK okPair f.pairs && (allK okSame f.sames && (allK okKeep f.keeps && (allK okBreak f.breaks && allK okWatch f.watches)))
def longF (f : Fl) : Bool := decide (40 < f.pairs.length) || decide (40 < f.sames.length) || decide (40 < f.keeps.length) || decide (40 < f.breaks.length) || decide (40 < f.watches.length)
def prF (f : Fl) : List UInt8 × Int := if okFile f then (if longF f then ([], 2) else (joinL (fileW f), 0)) else ([], 32)
theorem isN_nb {s : List UInt8} (h : isN s = true) : nb [s] = false := by simp [nb, h]
theorem isN_len {s : List UInt8} (h : isN s = true) : s.length <= 40 := name_len h
theorem sideT_len (n : Int) : (sideT n).length <= 5 := by unfold sideT; split <;> decide
theorem sideT_isN (n : Int) : isN (sideT n) = true := by unfold sideT; split <;> decide
theorem prX_len (x : Ex) : (prX x).1.length <= 60 * x.size := by
 unfold prX
 split
 ·rename_i h
  split
  ·simp
  ·have := (okX_weigh x h).1
   have := joinL_len (exW x)
   simp only; omega
 ·simp
theorem whenW_weigh : ∀ l : List Ex, weighW (whenW l) <= 6 * l.length + 60 * Ex.sizes l
 | [] => by rw [whenW, weighW_nil]; omega
 | x :: l => by
  have := prX_len x
  have := whenW_weigh l
  rw [whenW, weighW_cons, weighW_cons, Ex.sizes, List.length_cons]
  simp only [List.length_cons, List.length_nil] at *
  omega
theorem whenW_len : ∀ l : List Ex, (whenW l).length = 2 * l.length
 | [] => rfl
 | x :: l => by rw [whenW, List.length_cons, List.length_cons, whenW_len l, List.length_cons]; omega
theorem pairW_weigh {p : Pai} (h : okPair p = true) : weighW (pairW p) <= 1000 := by
 unfold okPair at h
 simp only [Bool.and_eq_true] at h
 have := isN_len h.1.1.1
 have := isN_len h.1.1.2
 unfold pairW
 simp only [weighW_cons, weighW_nil, List.length_cons, List.length_nil]; omega
theorem sameW_weigh {p : Pai} (h : okSame p = true) : weighW (sameW p) <= 1000 := by
 unfold okSame at h
 simp only [Bool.and_eq_true] at h
 have := isN_len h.1.1.1
 have := isN_len h.1.1.2
 have := isN_len h.1.2
 have := isN_len h.2
 unfold sameW
 simp only [weighW_cons, weighW_nil, List.length_cons, List.length_nil]; omega
theorem keepW_weigh {p : Kp} (h : okKeep p = true) : weighW (keepW p) <= 1000 := by
 unfold okKeep at h
 simp only [Bool.and_eq_true] at h
 have := isN_len h.1.1
 have := isN_len h.1.2
 have := sideT_len p.side
 unfold keepW
 simp only [weighW_cons, weighW_nil, List.length_cons, List.length_nil]; omega
theorem watchW_weigh {p : Wt} (h : okWatch p = true) : weighW (watchW p) <= 1000 := by
 unfold okWatch at h
 simp only [Bool.and_eq_true] at h
 have := isN_len h.1.1
 have := isN_len h.1.2
 have := sideT_len p.side
 unfold watchW
 simp only [weighW_cons, weighW_nil, List.length_cons, List.length_nil]; omega
theorem breakW_weigh {p : Bk} (h : okBreak p = true) : weighW (breakW p) <= 1000 * (1 + p.whn.length + Ex.sizes p.whn) := by
 unfold okBreak at h
 simp only [Bool.and_eq_true] at h
 have := isN_len h.1.1.1.1
 have := sideT_len p.side
 have := decs_len p.mark
 have := whenW_weigh p.whn
 unfold breakW
 simp only [weighW_cons, weighW_app, weighW_nil, List.length_cons, List.length_nil]; omega
theorem breakW_len (p : Bk) : (breakW p).length = 5 + 2 * p.whn.length := by
 unfold breakW
 simp only [List.length_cons, List.length_append, whenW_len, List.length_nil]; omega
theorem sz_str : sz (Pg.P Sp) 9 = 1 := by kernel_rfl
theorem lex_letter_is (c : Int) : den Sp lex_letter.id [.int .u8 c] [] none = some ⟨.ret (.bool (letter c)), [], none⟩ := by
 rw [lex_letter.eq]
 unfold letter
 by_cases h1 : 65 <= c <;> by_cases h2 : c <= 90 <;> by_cases h3 : 97 <= c <;> simp [h1, h2, h3]
theorem lex_digit_is (c : Int) : den Sp lex_digit.id [.int .u8 c] [] none = some ⟨.ret (.bool (digit c)), [], none⟩ := by
 rw [lex_digit.eq]
 unfold digit
 by_cases h1 : 48 <= c <;> simp [h1]
theorem lex_inner_is (c : Int) : den Sp lex_inner.id [.int .u8 c] [] none = some ⟨.ret (.bool (inner c)), [], none⟩ := by
 rw [lex_inner.eq, lex_letter_is, lex_digit_is]
 unfold inner
 cases letter c <;> cases digit c <;> simp
theorem lex_isKey_is (s : ByteArray) : den Sp lex_isKey.id [.str s] [] none = some ⟨.ret (.bool (isKey s)), [], none⟩ := by
 rw [lex_isKey.eq]
 have key : ∀ i : Nat, i <= 13 -> lex_isKey.L1_0_1_0 s (i : Int) = some ⟨.ret (.bool (isIn s (keys.drop i))), [], none⟩ := by
  refine down ?_ fun i hi ih => ?_
  ·rw [lex_isKey.L1_0_1_0_eq]; rfl
  ·rw [lex_isKey.L1_0_1_0_eq, wrap_nat (by omega), ih, isIn_step (show i < keys.length from hi)]
   have h1 : ((i : Int) < 13) := by omega
   have h2 : ((0 : Int) <= i ∧ (i : Int) < ((13 : Nat) : Int)) := by omega
   rw [show (decide ((i : Int) < 13)) = true by simp [h1], cond_true, if_pos h2]
   try rw [sz_str]
   have hi' : i < keys.length := hi
   have h3 : (keys.map V.str).getD ((Int.toNat (i : Int)) * 1 + 0) V.undef = V.str (keys[i]'hi') := by
    rw [List.getD_eq_getElem?_getD, List.getElem?_map, show Int.toNat (i : Int) * 1 + 0 = i by simp, List.getElem?_eq_getElem hi']
    rfl
   refine (congrArg (fun v => V.asStr v _) h3).trans ?_
   rw [asStr_str]
   generalize keys[i]'hi' = kk
   by_cases he : s = kk
   ·subst he; simp
   ·have he' : ¬ kk = s := fun h => he h.symm
    simp [he, he']
 exact key 0 (by omega)
theorem lex_IsName_is (s : ByteArray) (hs : s.size < 4611686018427387904) : den Sp lex_IsName.id [.str s] [] none = some ⟨.ret (.bool (isName s)), [], none⟩ := by
 rw [lex_IsName.eq, lex_letter_is, lex_isKey_is]
 have key : ∀ i : Nat, i <= s.size -> lex_IsName.L1_1_0_1_0 s (s.size : Int) (i : Int) = some ⟨.ret (.bool (allF (fun i => inner (byteAt s i)) s.size i)), [], none⟩ := by
  refine down ?_ fun i hi ih => ?_
  ·rw [lex_IsName.L1_1_0_1_0_eq, allF_end]; simp
  ·rw [lex_IsName.L1_1_0_1_0_eq, wrap_nat (by omega), ih, lex_inner_is, allF_step hi]
   have h1 : ((i : Int) < (s.size : Int)) := by omega
   cases hin : inner (byteAt s i) <;> simp [hi, hin]
 unfold isName
 by_cases h0 : s = ⟨#[]⟩
 ·subst h0; rfl
 ·have hsz : 0 < s.size := by
   rcases Nat.eq_zero_or_pos s.size with h | h
   ·exact absurd ((empty_iff s).2 h) h0
   ·exact h
  by_cases h1 : 40 < s.size
  ·have h1' : ¬ s.size <= 40 := by omega
   have h3 : ((s.size : Int) > 40) := by omega
   simp [h0, show ¬ s = B [] from h0, h1', h3]
  ·have h1' : s.size <= 40 := by omega
   have h2 : ¬ ((s.size : Int) > 40) := by omega
   have hk := key 0 (by omega)
   rw [show ((0 : Nat) : Int) = (0 : Int) from rfl] at hk
   cases hl : letter (byteAt s 0) <;> cases hq : isKey s <;> simp [h0, show ¬ s = B [] from h0, h1', h2, hsz, hl, hq, hk]
end Go.Proofs.YtmhnmelaodhemaaDoor
namespace Go.Proofs.YtmhnmelaodhemaaDoor
open Go Go.Proofs.Ab
namespace syntax_tokens_wrong
theorem eq (m0_0 : List (List V)) (m0_1 : Int) : den Sp id [V.ref 0 0] [Blk.cells T_syntax_tokens [V.sl .no T_api_Token m0_0, V.int .i64 m0_1] false] none =
  (if (((0 : Int) <= m0_1) ∧ (m0_1 < (m0_0.length : Int))) then (V.asInt (List.getD (List.getD m0_0 (Int.toNat m0_1) []) 3 V.undef) .i64 (fun n3 => some ⟨Out.pan (V.iface T_syntax_given (V.agg [V.int .i64 n3, V.int .i64 (30 : Int)])), [Blk.cells T_syntax_tokens [V.sl .no T_api_Token m0_0, V.int .i64 m0_1] false], none⟩)) else none) := (den_eq ..).trans (by kernel_rfl)
end syntax_tokens_wrong
namespace syntax_tokens_is
theorem eq (m0_0 : List (List V)) (m0_1 : Int) (a1 : ByteArray) : den Sp id [V.ref 0 0, V.str a1] [Blk.cells T_syntax_tokens [V.sl .no T_api_Token m0_0, V.int .i64 m0_1] false] none =
  (if (((0 : Int) <= m0_1) ∧ (m0_1 < (m0_0.length : Int))) then (V.asInt (List.getD (List.getD m0_0 (Int.toNat m0_1) []) 0 V.undef) .i64 (fun n5 => V.asStr (List.getD (List.getD m0_0 (Int.toNat m0_1) []) 1 V.undef) (fun s6 => V.asInt (List.getD (List.getD m0_0 (Int.toNat m0_1) []) 2 V.undef) .i64 (fun n7 => V.asInt (List.getD (List.getD m0_0 (Int.toNat m0_1) []) 3 V.undef) .i64 (fun n8 => bif (n5 == (3 : Int)) then (some ⟨Out.ret (V.bool (decide (s6 = a1))), [Blk.cells T_syntax_tokens [V.sl .no T_api_Token m0_0, V.int .i64 m0_1] false], none⟩) else (bif (n5 == (4 : Int)) then (some ⟨Out.ret (V.bool (decide (s6 = a1))), [Blk.cells T_syntax_tokens [V.sl .no T_api_Token m0_0, V.int .i64 m0_1] false], none⟩) else (some ⟨Out.ret (V.bool false), [Blk.cells T_syntax_tokens [V.sl .no T_api_Token m0_0, V.int .i64 m0_1] false], none⟩))))))) else none) := (den_eq ..).trans (by kernel_rfl)
end syntax_tokens_is
namespace syntax_tokens_has
theorem eq (m0_0 : List (List V)) (m0_1 : Int) (a1 : ByteArray) : den Sp id [V.ref 0 0, V.str a1] [Blk.cells T_syntax_tokens [V.sl .no T_api_Token m0_0, V.int .i64 m0_1] false] none =
  (den Sp syntax_tokens_is.id [V.ref 0 0, V.str a1] [Blk.cells T_syntax_tokens [V.sl .no T_api_Token m0_0, V.int .i64 m0_1] false] none).bind (fun r5 => Blk.asCells (List.getD (Res.bl r5) 0 (Blk.cells T_n0 [] true)) T_syntax_tokens 2 (fun rd6 => V.asSl (rd6 0) T_api_Token (fun es7 => V.asInt (rd6 1) .i64 (fun n8 => Res.onRet r5 (fun v9 => V.asBool v9 (fun b10 => bif (!b10) then (some ⟨Out.ret (V.bool false), [Blk.cells T_syntax_tokens [V.sl .no T_api_Token es7, V.int .i64 n8] false], none⟩) else (some ⟨Out.ret (V.bool true), [Blk.cells T_syntax_tokens [V.sl .no T_api_Token es7, V.int .i64 (IntKind.wrap .i64 (n8 + (1 : Int)))] false], none⟩))))))) := (den_eq ..).trans (by kernel_rfl)
end syntax_tokens_has
namespace syntax_tokens_need
theorem eq (m0_0 : List (List V)) (m0_1 : Int) (a1 : ByteArray) : den Sp id [V.ref 0 0, V.str a1] [Blk.cells T_syntax_tokens [V.sl .no T_api_Token m0_0, V.int .i64 m0_1] false] none =
  (den Sp syntax_tokens_has.id [V.ref 0 0, V.str a1] [Blk.cells T_syntax_tokens [V.sl .no T_api_Token m0_0, V.int .i64 m0_1] false] none).bind (fun r4 => Blk.asCells (List.getD (Res.bl r4) 0 (Blk.cells T_n0 [] true)) T_syntax_tokens 2 (fun rd5 => V.asSl (rd5 0) T_api_Token (fun es6 => V.asInt (rd5 1) .i64 (fun n7 => Res.onRet r4 (fun v8 => V.asBool v8 (fun b9 => bif (!b9) then (den Sp syntax_tokens_wrong.id [V.ref 0 0] [Blk.cells T_syntax_tokens [V.sl .no T_api_Token es6, V.int .i64 n7] false] none).bind (fun r11 => Blk.asCells (List.getD (Res.bl r11) 0 (Blk.cells T_n0 [] true)) T_syntax_tokens 2 (fun rd12 => V.asSl (rd12 0) T_api_Token (fun es13 => V.asInt (rd12 1) .i64 (fun n14 => Res.onOut r11 (fun v15 => V.asTup v15 0 (fun rd16 => some ⟨Out.ret (V.tup []), [Blk.cells T_syntax_tokens [V.sl .no T_api_Token es13, V.int .i64 n14] false], none⟩)) (fun v15 => V.asIface v15 T_syntax_given (fun w16 => V.asAgg w16 2 (fun rd17 => V.asInt (rd17 0) .i64 (fun n18 => V.asInt (rd17 1) .i64 (fun n19 => some ⟨Out.pan (V.iface T_syntax_given (V.agg [V.int .i64 n18, V.int .i64 n19])), [Blk.cells T_syntax_tokens [V.sl .no T_api_Token es13, V.int .i64 n14] false], none⟩))))))))) else (some ⟨Out.ret (V.tup []), [Blk.cells T_syntax_tokens [V.sl .no T_api_Token es6, V.int .i64 n7] false], none⟩))))))) := (den_eq ..).trans (by kernel_rfl)
end syntax_tokens_need
namespace syntax_tokens_name
theorem eq (m0_0 : List (List V)) (m0_1 : Int) : den Sp id [V.ref 0 0] [Blk.cells T_syntax_tokens [V.sl .no T_api_Token m0_0, V.int .i64 m0_1] false] none =
  (if (((0 : Int) <= m0_1) ∧ (m0_1 < (m0_0.length : Int))) then (V.asInt (List.getD (List.getD m0_0 (Int.toNat m0_1) []) 0 V.undef) .i64 (fun n4 => V.asStr (List.getD (List.getD m0_0 (Int.toNat m0_1) []) 1 V.undef) (fun s5 => V.asInt (List.getD (List.getD m0_0 (Int.toNat m0_1) []) 2 V.undef) .i64 (fun n6 => V.asInt (List.getD (List.getD m0_0 (Int.toNat m0_1) []) 3 V.undef) .i64 (fun n7 => bif (n4 != (1 : Int)) then (den Sp syntax_tokens_wrong.id [V.ref 0 0] [Blk.cells T_syntax_tokens [V.sl .no T_api_Token m0_0, V.int .i64 m0_1] false] none).bind (fun r10 => Blk.asCells (List.getD (Res.bl r10) 0 (Blk.cells T_n0 [] true)) T_syntax_tokens 2 (fun rd11 => V.asSl (rd11 0) T_api_Token (fun es12 => V.asInt (rd11 1) .i64 (fun n13 => Res.onOut r10 (fun v14 => V.asTup v14 0 (fun rd15 => some ⟨Out.ret (V.str s5), [Blk.cells T_syntax_tokens [V.sl .no T_api_Token es12, V.int .i64 (IntKind.wrap .i64 (n13 + (1 : Int)))] false], none⟩)) (fun v14 => V.asIface v14 T_syntax_given (fun w15 => V.asAgg w15 2 (fun rd16 => V.asInt (rd16 0) .i64 (fun n17 => V.asInt (rd16 1) .i64 (fun n18 => some ⟨Out.pan (V.iface T_syntax_given (V.agg [V.int .i64 n17, V.int .i64 n18])), [Blk.cells T_syntax_tokens [V.sl .no T_api_Token es12, V.int .i64 n13] false], none⟩))))))))) else (some ⟨Out.ret (V.str s5), [Blk.cells T_syntax_tokens [V.sl .no T_api_Token m0_0, V.int .i64 (IntKind.wrap .i64 (m0_1 + (1 : Int)))] false], none⟩)))))) else none) := (den_eq ..).trans (by kernel_rfl)
end syntax_tokens_name
namespace syntax_tokens_deep
theorem eq (m0_0 : List (List V)) (m0_1 a1 : Int) (a2 : Bool) : den Sp id [V.ref 0 0, V.int .i64 a1, V.bool a2] [Blk.cells T_syntax_tokens [V.sl .no T_api_Token m0_0, V.int .i64 m0_1] false] none =
  (bif (!a2) then (den Sp syntax_tokens_wrong.id [V.ref 0 0] [Blk.cells T_syntax_tokens [V.sl .no T_api_Token m0_0, V.int .i64 m0_1] false] none).bind (fun r6 => Blk.asCells (List.getD (Res.bl r6) 0 (Blk.cells T_n0 [] true)) T_syntax_tokens 2 (fun rd7 => V.asSl (rd7 0) T_api_Token (fun es8 => V.asInt (rd7 1) .i64 (fun n9 => Res.onOut r6 (fun v10 => V.asTup v10 0 (fun rd11 => bif (decide (a1 > (60 : Int))) then (if (((0 : Int) <= n9) ∧ (n9 < (es8.length : Int))) then (V.asInt (List.getD (List.getD es8 (Int.toNat n9) []) 3 V.undef) .i64 (fun n14 => some ⟨Out.pan (V.iface T_syntax_given (V.agg [V.int .i64 n14, V.int .i64 (31 : Int)])), [Blk.cells T_syntax_tokens [V.sl .no T_api_Token es8, V.int .i64 n9] false], none⟩)) else none) else (some ⟨Out.ret (V.tup []), [Blk.cells T_syntax_tokens [V.sl .no T_api_Token es8, V.int .i64 n9] false], none⟩))) (fun v10 => V.asIface v10 T_syntax_given (fun w11 => V.asAgg w11 2 (fun rd12 => V.asInt (rd12 0) .i64 (fun n13 => V.asInt (rd12 1) .i64 (fun n14 => some ⟨Out.pan (V.iface T_syntax_given (V.agg [V.int .i64 n13, V.int .i64 n14])), [Blk.cells T_syntax_tokens [V.sl .no T_api_Token es8, V.int .i64 n9] false], none⟩))))))))) else (bif (decide (a1 > (60 : Int))) then (if (((0 : Int) <= m0_1) ∧ (m0_1 < (m0_0.length : Int))) then (V.asInt (List.getD (List.getD m0_0 (Int.toNat m0_1) []) 3 V.undef) .i64 (fun n7 => some ⟨Out.pan (V.iface T_syntax_given (V.agg [V.int .i64 n7, V.int .i64 (31 : Int)])), [Blk.cells T_syntax_tokens [V.sl .no T_api_Token m0_0, V.int .i64 m0_1] false], none⟩)) else none) else (some ⟨Out.ret (V.tup []), [Blk.cells T_syntax_tokens [V.sl .no T_api_Token m0_0, V.int .i64 m0_1] false], none⟩))) := (den_eq ..).trans (by kernel_rfl)
end syntax_tokens_deep
namespace syntax_reader_begins
theorem eq (m0_0 : List (List V)) (m0_1 : Int) (m0_2 : List (List V)) : den Sp id [V.ref 0 0] [Blk.cells T_syntax_reader [V.sl .no T_api_Token m0_0, V.int .i64 m0_1, V.sl .no T_L_int m0_2] false] none =
  (if (((0 : Int) <= m0_1) ∧ (m0_1 < (m0_0.length : Int))) then (V.asInt (List.getD (List.getD m0_0 (Int.toNat m0_1) []) 0 V.undef) .i64 (fun n5 => V.asStr (List.getD (List.getD m0_0 (Int.toNat m0_1) []) 1 V.undef) (fun s6 => V.asInt (List.getD (List.getD m0_0 (Int.toNat m0_1) []) 2 V.undef) .i64 (fun n7 => V.asInt (List.getD (List.getD m0_0 (Int.toNat m0_1) []) 3 V.undef) .i64 (fun n8 => bif (n5 == (1 : Int)) then (some ⟨Out.ret (V.bool true), [Blk.cells T_syntax_reader [V.sl .no T_api_Token m0_0, V.int .i64 m0_1, V.sl .no T_L_int m0_2] false], none⟩) else (bif (n5 == (2 : Int)) then (some ⟨Out.ret (V.bool true), [Blk.cells T_syntax_reader [V.sl .no T_api_Token m0_0, V.int .i64 m0_1, V.sl .no T_L_int m0_2] false], none⟩) else (den Sp syntax_tokens_is.id [V.ref 0 0, V.str (ByteArray.mk #[116, 114, 117, 101])] [Blk.cells T_syntax_tokens [V.sl .no T_api_Token m0_0, V.int .i64 m0_1] false] none).bind (fun r10 => Blk.asCells (List.getD (Res.bl r10) 0 (Blk.cells T_n0 [] true)) T_syntax_tokens 2 (fun rd11 => V.asSl (rd11 0) T_api_Token (fun es12 => V.asInt (rd11 1) .i64 (fun n13 => Res.onRet r10 (fun v14 => V.asBool v14 (fun b15 => bif b15 then (some ⟨Out.ret (V.bool true), [Blk.cells T_syntax_reader [V.sl .no T_api_Token es12, V.int .i64 n13, V.sl .no T_L_int m0_2] false], none⟩) else (den Sp syntax_tokens_is.id [V.ref 0 0, V.str (ByteArray.mk #[102, 97, 108, 115, 101])] [Blk.cells T_syntax_tokens [V.sl .no T_api_Token es12, V.int .i64 n13] false] none).bind (fun r16 => Blk.asCells (List.getD (Res.bl r16) 0 (Blk.cells T_n0 [] true)) T_syntax_tokens 2 (fun rd17 => V.asSl (rd17 0) T_api_Token (fun es18 => V.asInt (rd17 1) .i64 (fun n19 => Res.onRet r16 (fun v20 => V.asBool v20 (fun b21 => bif b21 then (some ⟨Out.ret (V.bool true), [Blk.cells T_syntax_reader [V.sl .no T_api_Token es18, V.int .i64 n19, V.sl .no T_L_int m0_2] false], none⟩) else (den Sp syntax_tokens_is.id [V.ref 0 0, V.str (ByteArray.mk #[40])] [Blk.cells T_syntax_tokens [V.sl .no T_api_Token es18, V.int .i64 n19] false] none).bind (fun r22 => Blk.asCells (List.getD (Res.bl r22) 0 (Blk.cells T_n0 [] true)) T_syntax_tokens 2 (fun rd23 => V.asSl (rd23 0) T_api_Token (fun es24 => V.asInt (rd23 1) .i64 (fun n25 => Res.onRet r22 (fun v26 => V.asBool v26 (fun b27 => bif b27 then (some ⟨Out.ret (V.bool true), [Blk.cells T_syntax_reader [V.sl .no T_api_Token es24, V.int .i64 n25, V.sl .no T_L_int m0_2] false], none⟩) else (den Sp syntax_tokens_is.id [V.ref 0 0, V.str (ByteArray.mk #[45])] [Blk.cells T_syntax_tokens [V.sl .no T_api_Token es24, V.int .i64 n25] false] none).bind (fun r28 => Blk.asCells (List.getD (Res.bl r28) 0 (Blk.cells T_n0 [] true)) T_syntax_tokens 2 (fun rd29 => V.asSl (rd29 0) T_api_Token (fun es30 => V.asInt (rd29 1) .i64 (fun n31 => Res.onRet r28 (fun v32 => V.asBool v32 (fun b33 => bif b33 then (some ⟨Out.ret (V.bool true), [Blk.cells T_syntax_reader [V.sl .no T_api_Token es30, V.int .i64 n31, V.sl .no T_L_int m0_2] false], none⟩) else (den Sp syntax_tokens_is.id [V.ref 0 0, V.str (ByteArray.mk #[33])] [Blk.cells T_syntax_tokens [V.sl .no T_api_Token es30, V.int .i64 n31] false] none).bind (fun r34 => Blk.asCells (List.getD (Res.bl r34) 0 (Blk.cells T_n0 [] true)) T_syntax_tokens 2 (fun rd35 => V.asSl (rd35 0) T_api_Token (fun es36 => V.asInt (rd35 1) .i64 (fun n37 => Res.onRet r34 (fun v38 => V.asBool v38 (fun b39 => some ⟨Out.ret (V.bool b39), [Blk.cells T_syntax_reader [V.sl .no T_api_Token es36, V.int .i64 n37, V.sl .no T_L_int m0_2] false], none⟩)))))))))))))))))))))))))))))))))))) else none) := (den_eq ..).trans (by kernel_rfl)
end syntax_reader_begins
namespace syntax_reader_sign
theorem eq (m0_0 : List (List V)) (m0_1 : Int) (m0_2 : List (List V)) (a1 : Int) : den Sp id [V.ref 0 0, V.int .i64 a1] [Blk.cells T_syntax_reader [V.sl .no T_api_Token m0_0, V.int .i64 m0_1, V.sl .no T_L_int m0_2] false] none =
  (if (((0 : Int) <= m0_1) ∧ (m0_1 < (m0_0.length : Int))) then (V.asInt (List.getD (List.getD m0_0 (Int.toNat m0_1) []) 0 V.undef) .i64 (fun n6 => V.asStr (List.getD (List.getD m0_0 (Int.toNat m0_1) []) 1 V.undef) (fun s7 => V.asInt (List.getD (List.getD m0_0 (Int.toNat m0_1) []) 2 V.undef) .i64 (fun n8 => V.asInt (List.getD (List.getD m0_0 (Int.toNat m0_1) []) 3 V.undef) .i64 (fun n9 => bif (n6 != (4 : Int)) then (some ⟨Out.ret (V.str (ByteArray.mk #[])), [Blk.cells T_syntax_reader [V.sl .no T_api_Token m0_0, V.int .i64 m0_1, V.sl .no T_L_int m0_2] false], none⟩) else (den Sp syntax_level.id [V.str s7] [] none).bind (fun r11 => Res.onRet r11 (fun v12 => V.asInt v12 .i64 (fun n13 => bif (n13 != a1) then (some ⟨Out.ret (V.str (ByteArray.mk #[])), [Blk.cells T_syntax_reader [V.sl .no T_api_Token m0_0, V.int .i64 m0_1, V.sl .no T_L_int m0_2] false], none⟩) else (some ⟨Out.ret (V.str s7), [Blk.cells T_syntax_reader [V.sl .no T_api_Token m0_0, V.int .i64 m0_1, V.sl .no T_L_int m0_2] false], none⟩))))))))) else none) := (den_eq ..).trans (by kernel_rfl)
end syntax_reader_sign
namespace syntax_level
theorem eq (a0 : ByteArray) : den Sp id [V.str a0] [] none =
  (bif (decide (a0 = (ByteArray.mk #[124, 124]))) then (some ⟨Out.ret (V.int .i64 (1 : Int)), [], none⟩) else (bif (decide (a0 = (ByteArray.mk #[38, 38]))) then (some ⟨Out.ret (V.int .i64 (2 : Int)), [], none⟩) else (bif (decide (a0 = (ByteArray.mk #[61, 61]))) then (some ⟨Out.ret (V.int .i64 (3 : Int)), [], none⟩) else (bif (decide (a0 = (ByteArray.mk #[33, 61]))) then (some ⟨Out.ret (V.int .i64 (3 : Int)), [], none⟩) else (bif (decide (a0 = (ByteArray.mk #[60]))) then (some ⟨Out.ret (V.int .i64 (3 : Int)), [], none⟩) else (bif (decide (a0 = (ByteArray.mk #[60, 61]))) then (some ⟨Out.ret (V.int .i64 (3 : Int)), [], none⟩) else (bif (decide (a0 = (ByteArray.mk #[43]))) then (some ⟨Out.ret (V.int .i64 (4 : Int)), [], none⟩) else (bif (decide (a0 = (ByteArray.mk #[45]))) then (some ⟨Out.ret (V.int .i64 (4 : Int)), [], none⟩) else (bif (decide (a0 = (ByteArray.mk #[42]))) then (some ⟨Out.ret (V.int .i64 (5 : Int)), [], none⟩) else (bif (decide (a0 = (ByteArray.mk #[47]))) then (some ⟨Out.ret (V.int .i64 (5 : Int)), [], none⟩) else (bif (decide (a0 = (ByteArray.mk #[37]))) then (some ⟨Out.ret (V.int .i64 (5 : Int)), [], none⟩) else (some ⟨Out.ret (V.int .i64 (0 : Int)), [], none⟩)))))))))))) := (den_eq ..).trans (by kernel_rfl)
end syntax_level
end Go.Proofs.YtmhnmelaodhemaaDoor
namespace Go.Proofs.YtmhnmelaodhemaaDoor
open Go Go.Proofs.Ab Go.Proofs.Px
theorem most_if {R : Type} {n : Nat} (h : n <= 1099511627776) (a b : Option R) : (if n <= most then a else b) = a := if_pos h
end Go.Proofs.YtmhnmelaodhemaaDoor
namespace Go.Proofs.YtmhnmelaodhemaaDoor
open Go Go.Proofs.Ab
namespace syntax_plain
theorem eq (a0_0 : Int) (a0_1 : ByteArray) (a0_2 : Int) (a0_3 : List (List V)) : den Sp id [V.agg [V.int .i64 a0_0, V.str a0_1, V.int .i64 a0_2, V.sl .no T_api_Expr a0_3]] [] none =
  (bif (a0_0 != (1 : Int)) then (bif (!((!(decide (a0_1 = (ByteArray.mk #[])))) == (a0_0 != (2 : Int)))) then (some ⟨Out.ret (V.bool false), [], none⟩) else (bif (a0_2 != (0 : Int)) then (bif (a0_0 != (1 : Int)) then (bif (a0_0 != (2 : Int)) then (some ⟨Out.ret (V.bool false), [], none⟩) else (bif (a0_0 == (1 : Int)) then (bif (decide (a0_2 >= (0 : Int))) then (some ⟨Out.ret (V.bool ((a0_3.length : Int) == (0 : Int))), [], none⟩) else (some ⟨Out.ret (V.bool false), [], none⟩)) else (bif (a0_0 == (2 : Int)) then (bif (a0_2 == (0 : Int)) then (some ⟨Out.ret (V.bool ((a0_3.length : Int) == (0 : Int))), [], none⟩) else (bif (a0_2 == (1 : Int)) then (some ⟨Out.ret (V.bool ((a0_3.length : Int) == (0 : Int))), [], none⟩) else (some ⟨Out.ret (V.bool false), [], none⟩))) else (bif (a0_0 == (3 : Int)) then (some ⟨Out.ret (V.bool ((a0_3.length : Int) == (0 : Int))), [], none⟩) else (bif (a0_0 == (4 : Int)) then (some ⟨Out.ret (V.bool ((a0_3.length : Int) == (1 : Int))), [], none⟩) else (bif (a0_0 == (5 : Int)) then (bif (decide (a0_1 = (ByteArray.mk #[45]))) then (some ⟨Out.ret (V.bool ((a0_3.length : Int) == (1 : Int))), [], none⟩) else (bif (decide (a0_1 = (ByteArray.mk #[33]))) then (some ⟨Out.ret (V.bool ((a0_3.length : Int) == (1 : Int))), [], none⟩) else (some ⟨Out.ret (V.bool false), [], none⟩))) else (bif (a0_0 == (6 : Int)) then (den Sp syntax_level.id [V.str a0_1] [] none).bind (fun r14 => Res.onRet r14 (fun v15 => V.asInt v15 .i64 (fun n16 => bif (decide (n16 > (0 : Int))) then (some ⟨Out.ret (V.bool ((a0_3.length : Int) == (2 : Int))), [], none⟩) else (some ⟨Out.ret (V.bool false), [], none⟩)))) else (some ⟨Out.ret (V.bool false), [], none⟩)))))))) else (bif (a0_0 == (1 : Int)) then (bif (decide (a0_2 >= (0 : Int))) then (some ⟨Out.ret (V.bool ((a0_3.length : Int) == (0 : Int))), [], none⟩) else (some ⟨Out.ret (V.bool false), [], none⟩)) else (bif (a0_0 == (2 : Int)) then (bif (a0_2 == (0 : Int)) then (some ⟨Out.ret (V.bool ((a0_3.length : Int) == (0 : Int))), [], none⟩) else (bif (a0_2 == (1 : Int)) then (some ⟨Out.ret (V.bool ((a0_3.length : Int) == (0 : Int))), [], none⟩) else (some ⟨Out.ret (V.bool false), [], none⟩))) else (bif (a0_0 == (3 : Int)) then (some ⟨Out.ret (V.bool ((a0_3.length : Int) == (0 : Int))), [], none⟩) else (bif (a0_0 == (4 : Int)) then (some ⟨Out.ret (V.bool ((a0_3.length : Int) == (1 : Int))), [], none⟩) else (bif (a0_0 == (5 : Int)) then (bif (decide (a0_1 = (ByteArray.mk #[45]))) then (some ⟨Out.ret (V.bool ((a0_3.length : Int) == (1 : Int))), [], none⟩) else (bif (decide (a0_1 = (ByteArray.mk #[33]))) then (some ⟨Out.ret (V.bool ((a0_3.length : Int) == (1 : Int))), [], none⟩) else (some ⟨Out.ret (V.bool false), [], none⟩))) else (bif (a0_0 == (6 : Int)) then (den Sp syntax_level.id [V.str a0_1] [] none).bind (fun r14 => Res.onRet r14 (fun v15 => V.asInt v15 .i64 (fun n16 => bif (decide (n16 > (0 : Int))) then (some ⟨Out.ret (V.bool ((a0_3.length : Int) == (2 : Int))), [], none⟩) else (some ⟨Out.ret (V.bool false), [], none⟩)))) else (some ⟨Out.ret (V.bool false), [], none⟩)))))))) else (bif (a0_0 == (1 : Int)) then (bif (decide (a0_2 >= (0 : Int))) then (some ⟨Out.ret (V.bool ((a0_3.length : Int) == (0 : Int))), [], none⟩) else (some ⟨Out.ret (V.bool false), [], none⟩)) else (bif (a0_0 == (2 : Int)) then (bif (a0_2 == (0 : Int)) then (some ⟨Out.ret (V.bool ((a0_3.length : Int) == (0 : Int))), [], none⟩) else (bif (a0_2 == (1 : Int)) then (some ⟨Out.ret (V.bool ((a0_3.length : Int) == (0 : Int))), [], none⟩) else (some ⟨Out.ret (V.bool false), [], none⟩))) else (bif (a0_0 == (3 : Int)) then (some ⟨Out.ret (V.bool ((a0_3.length : Int) == (0 : Int))), [], none⟩) else (bif (a0_0 == (4 : Int)) then (some ⟨Out.ret (V.bool ((a0_3.length : Int) == (1 : Int))), [], none⟩) else (bif (a0_0 == (5 : Int)) then (bif (decide (a0_1 = (ByteArray.mk #[45]))) then (some ⟨Out.ret (V.bool ((a0_3.length : Int) == (1 : Int))), [], none⟩) else (bif (decide (a0_1 = (ByteArray.mk #[33]))) then (some ⟨Out.ret (V.bool ((a0_3.length : Int) == (1 : Int))), [], none⟩) else (some ⟨Out.ret (V.bool false), [], none⟩))) else (bif (a0_0 == (6 : Int)) then (den Sp syntax_level.id [V.str a0_1] [] none).bind (fun r14 => Res.onRet r14 (fun v15 => V.asInt v15 .i64 (fun n16 => bif (decide (n16 > (0 : Int))) then (some ⟨Out.ret (V.bool ((a0_3.length : Int) == (2 : Int))), [], none⟩) else (some ⟨Out.ret (V.bool false), [], none⟩)))) else (some ⟨Out.ret (V.bool false), [], none⟩))))))))) else (bif (!((!(decide (a0_1 = (ByteArray.mk #[])))) == false)) then (some ⟨Out.ret (V.bool false), [], none⟩) else (bif (a0_2 != (0 : Int)) then (bif (a0_0 != (1 : Int)) then (bif (a0_0 != (2 : Int)) then (some ⟨Out.ret (V.bool false), [], none⟩) else (bif (a0_0 == (1 : Int)) then (bif (decide (a0_2 >= (0 : Int))) then (some ⟨Out.ret (V.bool ((a0_3.length : Int) == (0 : Int))), [], none⟩) else (some ⟨Out.ret (V.bool false), [], none⟩)) else (bif (a0_0 == (2 : Int)) then (bif (a0_2 == (0 : Int)) then (some ⟨Out.ret (V.bool ((a0_3.length : Int) == (0 : Int))), [], none⟩) else (bif (a0_2 == (1 : Int)) then (some ⟨Out.ret (V.bool ((a0_3.length : Int) == (0 : Int))), [], none⟩) else (some ⟨Out.ret (V.bool false), [], none⟩))) else (bif (a0_0 == (3 : Int)) then (some ⟨Out.ret (V.bool ((a0_3.length : Int) == (0 : Int))), [], none⟩) else (bif (a0_0 == (4 : Int)) then (some ⟨Out.ret (V.bool ((a0_3.length : Int) == (1 : Int))), [], none⟩) else (bif (a0_0 == (5 : Int)) then (bif (decide (a0_1 = (ByteArray.mk #[45]))) then (some ⟨Out.ret (V.bool ((a0_3.length : Int) == (1 : Int))), [], none⟩) else (bif (decide (a0_1 = (ByteArray.mk #[33]))) then (some ⟨Out.ret (V.bool ((a0_3.length : Int) == (1 : Int))), [], none⟩) else (some ⟨Out.ret (V.bool false), [], none⟩))) else (bif (a0_0 == (6 : Int)) then (den Sp syntax_level.id [V.str a0_1] [] none).bind (fun r14 => Res.onRet r14 (fun v15 => V.asInt v15 .i64 (fun n16 => bif (decide (n16 > (0 : Int))) then (some ⟨Out.ret (V.bool ((a0_3.length : Int) == (2 : Int))), [], none⟩) else (some ⟨Out.ret (V.bool false), [], none⟩)))) else (some ⟨Out.ret (V.bool false), [], none⟩)))))))) else (bif (a0_0 == (1 : Int)) then (bif (decide (a0_2 >= (0 : Int))) then (some ⟨Out.ret (V.bool ((a0_3.length : Int) == (0 : Int))), [], none⟩) else (some ⟨Out.ret (V.bool false), [], none⟩)) else (bif (a0_0 == (2 : Int)) then (bif (a0_2 == (0 : Int)) then (some ⟨Out.ret (V.bool ((a0_3.length : Int) == (0 : Int))), [], none⟩) else (bif (a0_2 == (1 : Int)) then (some ⟨Out.ret (V.bool ((a0_3.length : Int) == (0 : Int))), [], none⟩) else (some ⟨Out.ret (V.bool false), [], none⟩))) else (bif (a0_0 == (3 : Int)) then (some ⟨Out.ret (V.bool ((a0_3.length : Int) == (0 : Int))), [], none⟩) else (bif (a0_0 == (4 : Int)) then (some ⟨Out.ret (V.bool ((a0_3.length : Int) == (1 : Int))), [], none⟩) else (bif (a0_0 == (5 : Int)) then (bif (decide (a0_1 = (ByteArray.mk #[45]))) then (some ⟨Out.ret (V.bool ((a0_3.length : Int) == (1 : Int))), [], none⟩) else (bif (decide (a0_1 = (ByteArray.mk #[33]))) then (some ⟨Out.ret (V.bool ((a0_3.length : Int) == (1 : Int))), [], none⟩) else (some ⟨Out.ret (V.bool false), [], none⟩))) else (bif (a0_0 == (6 : Int)) then (den Sp syntax_level.id [V.str a0_1] [] none).bind (fun r14 => Res.onRet r14 (fun v15 => V.asInt v15 .i64 (fun n16 => bif (decide (n16 > (0 : Int))) then (some ⟨Out.ret (V.bool ((a0_3.length : Int) == (2 : Int))), [], none⟩) else (some ⟨Out.ret (V.bool false), [], none⟩)))) else (some ⟨Out.ret (V.bool false), [], none⟩)))))))) else (bif (a0_0 == (1 : Int)) then (bif (decide (a0_2 >= (0 : Int))) then (some ⟨Out.ret (V.bool ((a0_3.length : Int) == (0 : Int))), [], none⟩) else (some ⟨Out.ret (V.bool false), [], none⟩)) else (bif (a0_0 == (2 : Int)) then (bif (a0_2 == (0 : Int)) then (some ⟨Out.ret (V.bool ((a0_3.length : Int) == (0 : Int))), [], none⟩) else (bif (a0_2 == (1 : Int)) then (some ⟨Out.ret (V.bool ((a0_3.length : Int) == (0 : Int))), [], none⟩) else (some ⟨Out.ret (V.bool false), [], none⟩))) else (bif (a0_0 == (3 : Int)) then (some ⟨Out.ret (V.bool ((a0_3.length : Int) == (0 : Int))), [], none⟩) else (bif (a0_0 == (4 : Int)) then (some ⟨Out.ret (V.bool ((a0_3.length : Int) == (1 : Int))), [], none⟩) else (bif (a0_0 == (5 : Int)) then (bif (decide (a0_1 = (ByteArray.mk #[45]))) then (some ⟨Out.ret (V.bool ((a0_3.length : Int) == (1 : Int))), [], none⟩) else (bif (decide (a0_1 = (ByteArray.mk #[33]))) then (some ⟨Out.ret (V.bool ((a0_3.length : Int) == (1 : Int))), [], none⟩) else (some ⟨Out.ret (V.bool false), [], none⟩))) else (bif (a0_0 == (6 : Int)) then (den Sp syntax_level.id [V.str a0_1] [] none).bind (fun r14 => Res.onRet r14 (fun v15 => V.asInt v15 .i64 (fun n16 => bif (decide (n16 > (0 : Int))) then (some ⟨Out.ret (V.bool ((a0_3.length : Int) == (2 : Int))), [], none⟩) else (some ⟨Out.ret (V.bool false), [], none⟩)))) else (some ⟨Out.ret (V.bool false), [], none⟩)))))))))) := (den_eq ..).trans (by kernel_rfl)
end syntax_plain
namespace syntax_writer_put
theorem eq (m0_0 : List (List V)) (m0_1 : Bool) (m0_2 : Int) (a1 : List (List V)) : den Sp id [V.ref 0 0, V.sl .no T_string a1] [Blk.cells T_syntax_writer [V.sl (Tok.row 0) T_string m0_0, V.bool m0_1, V.int .i64 m0_2] false] none =
  (if (((List.length m0_0) + (List.length a1)) <= most) then (some ⟨Out.ret (V.tup []), [Blk.cells T_syntax_writer [V.sl (Tok.row 0) T_string (m0_0 ++ a1), V.bool m0_1, V.int .i64 m0_2] false], none⟩) else none) := (den_eq ..).trans (by kernel_rfl)
end syntax_writer_put
namespace syntax_writer_need
theorem eq (m0_0 : List (List V)) (m0_1 : Bool) (m0_2 : Int) (a1 : Bool) : den Sp id [V.ref 0 0, V.bool a1] [Blk.cells T_syntax_writer [V.sl (Tok.row 0) T_string m0_0, V.bool m0_1, V.int .i64 m0_2] false] none =
  (bif m0_1 then (some ⟨Out.ret (V.tup []), [Blk.cells T_syntax_writer [V.sl (Tok.row 0) T_string m0_0, V.bool true, V.int .i64 m0_2] false], none⟩) else (some ⟨Out.ret (V.tup []), [Blk.cells T_syntax_writer [V.sl (Tok.row 0) T_string m0_0, V.bool (!a1), V.int .i64 m0_2] false], none⟩)) := (den_eq ..).trans (by kernel_rfl)
end syntax_writer_need
namespace syntax_writer_name
theorem eq (m0_0 : List (List V)) (m0_1 : Bool) (m0_2 : Int) (a1 : ByteArray) : den Sp id [V.ref 0 0, V.str a1] [Blk.cells T_syntax_writer [V.sl (Tok.row 0) T_string m0_0, V.bool m0_1, V.int .i64 m0_2] false] none =
  (den Sp lex_IsName.id [V.str a1] [] none).bind (fun r5 => Res.onRet r5 (fun v6 => V.asBool v6 (fun b7 => (den Sp syntax_writer_need.id [V.ref 0 0, V.bool b7] [Blk.cells T_syntax_writer [V.sl (Tok.row 0) T_string m0_0, V.bool m0_1, V.int .i64 m0_2] false] none).bind (fun r8 => Blk.asCells (List.getD (Res.bl r8) 0 (Blk.cells T_n0 [] true)) T_syntax_writer 3 (fun rd9 => V.asSlR (rd9 0) 0 T_string (fun es10 => V.asBool (rd9 1) (fun b11 => V.asInt (rd9 2) .i64 (fun n12 => Res.onRet r8 (fun v13 => V.asTup v13 0 (fun rd14 => (den Sp syntax_writer_put.id [V.ref 0 0, V.sl .no T_string [[V.str a1]]] [Blk.cells T_syntax_writer [V.sl (Tok.row 0) T_string es10, V.bool b11, V.int .i64 n12] false] none).bind (fun r16 => Blk.asCells (List.getD (Res.bl r16) 0 (Blk.cells T_n0 [] true)) T_syntax_writer 3 (fun rd17 => V.asSlR (rd17 0) 0 T_string (fun es18 => V.asBool (rd17 1) (fun b19 => V.asInt (rd17 2) .i64 (fun n20 => Res.onRet r16 (fun v21 => V.asTup v21 0 (fun rd22 => some ⟨Out.ret (V.tup []), [Blk.cells T_syntax_writer [V.sl (Tok.row 0) T_string es18, V.bool b19, V.int .i64 n20] false], none⟩))))))))))))))))) := (den_eq ..).trans (by kernel_rfl)
end syntax_writer_name
namespace syntax_writer_expr
theorem eq (m0_0 : List (List V)) (m0_1 : Bool) (m0_2 a1_0 : Int) (a1_1 : ByteArray) (a1_2 : Int) (a1_3 : List (List V)) (a2 : Int) : den Sp id [V.ref 0 0, V.agg [V.int .i64 a1_0, V.str a1_1, V.int .i64 a1_2, V.sl .no T_api_Expr a1_3], V.int .i64 a2] [Blk.cells T_syntax_writer [V.sl (Tok.row 0) T_string m0_0, V.bool m0_1, V.int .i64 m0_2] false] none =
  (den Sp syntax_plain.id [V.agg [V.int .i64 a1_0, V.str a1_1, V.int .i64 a1_2, V.sl .no T_api_Expr a1_3]] [] none).bind (fun r11 => Res.onRet r11 (fun v12 => V.asBool v12 (fun b13 => (den Sp syntax_writer_need.id [V.ref 0 0, V.bool b13] [Blk.cells T_syntax_writer [V.sl (Tok.row 0) T_string m0_0, V.bool m0_1, V.int .i64 (if (a2 > m0_2) then a2 else m0_2)] false] none).bind (fun r14 => Blk.asCells (List.getD (Res.bl r14) 0 (Blk.cells T_n0 [] true)) T_syntax_writer 3 (fun rd15 => V.asSlR (rd15 0) 0 T_string (fun es16 => V.asBool (rd15 1) (fun b17 => V.asInt (rd15 2) .i64 (fun n18 => Res.onRet r14 (fun v19 => V.asTup v19 0 (fun rd20 => bif b17 then (some ⟨Out.ret (V.tup []), [Blk.cells T_syntax_writer [V.sl (Tok.row 0) T_string es16, V.bool b17, V.int .i64 n18] false], none⟩) else (bif (a1_0 == (1 : Int)) then (den Sp num_Text.id [V.int .i64 a1_2] [] none).bind (fun r25 => Res.onRet r25 (fun v26 => V.asStr v26 (fun s27 => (den Sp syntax_writer_put.id [V.ref 0 0, V.sl .no T_string [[V.str s27]]] [Blk.cells T_syntax_writer [V.sl (Tok.row 0) T_string es16, V.bool b17, V.int .i64 n18] false] none).bind (fun r28 => Blk.asCells (List.getD (Res.bl r28) 0 (Blk.cells T_n0 [] true)) T_syntax_writer 3 (fun rd29 => V.asSlR (rd29 0) 0 T_string (fun es30 => V.asBool (rd29 1) (fun b31 => V.asInt (rd29 2) .i64 (fun n32 => Res.onRet r28 (fun v33 => V.asTup v33 0 (fun rd34 => some ⟨Out.ret (V.tup []), [Blk.cells T_syntax_writer [V.sl (Tok.row 0) T_string es30, V.bool b31, V.int .i64 n32] false], none⟩)))))))))) else (bif (a1_0 == (2 : Int)) then (bif (a1_2 == (1 : Int)) then (den Sp syntax_writer_put.id [V.ref 0 0, V.sl .no T_string [[V.str (ByteArray.mk #[116, 114, 117, 101])]]] [Blk.cells T_syntax_writer [V.sl (Tok.row 0) T_string es16, V.bool b17, V.int .i64 n18] false] none).bind (fun r27 => Blk.asCells (List.getD (Res.bl r27) 0 (Blk.cells T_n0 [] true)) T_syntax_writer 3 (fun rd28 => V.asSlR (rd28 0) 0 T_string (fun es29 => V.asBool (rd28 1) (fun b30 => V.asInt (rd28 2) .i64 (fun n31 => Res.onRet r27 (fun v32 => V.asTup v32 0 (fun rd33 => some ⟨Out.ret (V.tup []), [Blk.cells T_syntax_writer [V.sl (Tok.row 0) T_string es29, V.bool b30, V.int .i64 n31] false], none⟩))))))) else (den Sp syntax_writer_put.id [V.ref 0 0, V.sl .no T_string [[V.str (ByteArray.mk #[102, 97, 108, 115, 101])]]] [Blk.cells T_syntax_writer [V.sl (Tok.row 0) T_string es16, V.bool b17, V.int .i64 n18] false] none).bind (fun r27 => Blk.asCells (List.getD (Res.bl r27) 0 (Blk.cells T_n0 [] true)) T_syntax_writer 3 (fun rd28 => V.asSlR (rd28 0) 0 T_string (fun es29 => V.asBool (rd28 1) (fun b30 => V.asInt (rd28 2) .i64 (fun n31 => Res.onRet r27 (fun v32 => V.asTup v32 0 (fun rd33 => some ⟨Out.ret (V.tup []), [Blk.cells T_syntax_writer [V.sl (Tok.row 0) T_string es29, V.bool b30, V.int .i64 n31] false], none⟩)))))))) else (bif (a1_0 == (3 : Int)) then (den Sp syntax_writer_name.id [V.ref 0 0, V.str a1_1] [Blk.cells T_syntax_writer [V.sl (Tok.row 0) T_string es16, V.bool b17, V.int .i64 n18] false] none).bind (fun r27 => Blk.asCells (List.getD (Res.bl r27) 0 (Blk.cells T_n0 [] true)) T_syntax_writer 3 (fun rd28 => V.asSlR (rd28 0) 0 T_string (fun es29 => V.asBool (rd28 1) (fun b30 => V.asInt (rd28 2) .i64 (fun n31 => Res.onRet r27 (fun v32 => V.asTup v32 0 (fun rd33 => bif (a1_0 == (4 : Int)) then (den Sp syntax_writer_put.id [V.ref 0 0, V.sl .no T_string [[V.str (ByteArray.mk #[91])]]] [Blk.cells T_syntax_writer [V.sl (Tok.row 0) T_string es29, V.bool b30, V.int .i64 n31] false] none).bind (fun r36 => Blk.asCells (List.getD (Res.bl r36) 0 (Blk.cells T_n0 [] true)) T_syntax_writer 3 (fun rd37 => V.asSlR (rd37 0) 0 T_string (fun es38 => V.asBool (rd37 1) (fun b39 => V.asInt (rd37 2) .i64 (fun n40 => Res.onRet r36 (fun v41 => V.asTup v41 0 (fun rd42 => if (((0 : Int) <= (0 : Int)) ∧ ((0 : Int) < (a1_3.length : Int))) then (V.asInt (List.getD (List.getD a1_3 0 []) 0 V.undef) .i64 (fun n44 => V.asStr (List.getD (List.getD a1_3 0 []) 1 V.undef) (fun s45 => V.asInt (List.getD (List.getD a1_3 0 []) 2 V.undef) .i64 (fun n46 => V.asSl (List.getD (List.getD a1_3 0 []) 3 V.undef) T_api_Expr (fun es47 => (den Sp syntax_writer_expr.id [V.ref 0 0, V.agg [V.int .i64 n44, V.str s45, V.int .i64 n46, V.sl .no T_api_Expr es47], V.int .i64 (IntKind.wrap .i64 (a2 + (1 : Int)))] [Blk.cells T_syntax_writer [V.sl (Tok.row 0) T_string es38, V.bool b39, V.int .i64 n40] false] none).bind (fun r48 => Blk.asCells (List.getD (Res.bl r48) 0 (Blk.cells T_n0 [] true)) T_syntax_writer 3 (fun rd49 => V.asSlR (rd49 0) 0 T_string (fun es50 => V.asBool (rd49 1) (fun b51 => V.asInt (rd49 2) .i64 (fun n52 => Res.onRet r48 (fun v53 => V.asTup v53 0 (fun rd54 => (den Sp syntax_writer_put.id [V.ref 0 0, V.sl .no T_string [[V.str (ByteArray.mk #[93])]]] [Blk.cells T_syntax_writer [V.sl (Tok.row 0) T_string es50, V.bool b51, V.int .i64 n52] false] none).bind (fun r56 => Blk.asCells (List.getD (Res.bl r56) 0 (Blk.cells T_n0 [] true)) T_syntax_writer 3 (fun rd57 => V.asSlR (rd57 0) 0 T_string (fun es58 => V.asBool (rd57 1) (fun b59 => V.asInt (rd57 2) .i64 (fun n60 => Res.onRet r56 (fun v61 => V.asTup v61 0 (fun rd62 => some ⟨Out.ret (V.tup []), [Blk.cells T_syntax_writer [V.sl (Tok.row 0) T_string es58, V.bool b59, V.int .i64 n60] false], none⟩))))))))))))))))))) else none))))))) else (some ⟨Out.ret (V.tup []), [Blk.cells T_syntax_writer [V.sl (Tok.row 0) T_string es29, V.bool b30, V.int .i64 n31] false], none⟩)))))))) else (bif (a1_0 == (4 : Int)) then (den Sp syntax_writer_name.id [V.ref 0 0, V.str a1_1] [Blk.cells T_syntax_writer [V.sl (Tok.row 0) T_string es16, V.bool b17, V.int .i64 n18] false] none).bind (fun r28 => Blk.asCells (List.getD (Res.bl r28) 0 (Blk.cells T_n0 [] true)) T_syntax_writer 3 (fun rd29 => V.asSlR (rd29 0) 0 T_string (fun es30 => V.asBool (rd29 1) (fun b31 => V.asInt (rd29 2) .i64 (fun n32 => Res.onRet r28 (fun v33 => V.asTup v33 0 (fun rd34 => bif (a1_0 == (4 : Int)) then (den Sp syntax_writer_put.id [V.ref 0 0, V.sl .no T_string [[V.str (ByteArray.mk #[91])]]] [Blk.cells T_syntax_writer [V.sl (Tok.row 0) T_string es30, V.bool b31, V.int .i64 n32] false] none).bind (fun r37 => Blk.asCells (List.getD (Res.bl r37) 0 (Blk.cells T_n0 [] true)) T_syntax_writer 3 (fun rd38 => V.asSlR (rd38 0) 0 T_string (fun es39 => V.asBool (rd38 1) (fun b40 => V.asInt (rd38 2) .i64 (fun n41 => Res.onRet r37 (fun v42 => V.asTup v42 0 (fun rd43 => if (((0 : Int) <= (0 : Int)) ∧ ((0 : Int) < (a1_3.length : Int))) then (V.asInt (List.getD (List.getD a1_3 0 []) 0 V.undef) .i64 (fun n45 => V.asStr (List.getD (List.getD a1_3 0 []) 1 V.undef) (fun s46 => V.asInt (List.getD (List.getD a1_3 0 []) 2 V.undef) .i64 (fun n47 => V.asSl (List.getD (List.getD a1_3 0 []) 3 V.undef) T_api_Expr (fun es48 => (den Sp syntax_writer_expr.id [V.ref 0 0, V.agg [V.int .i64 n45, V.str s46, V.int .i64 n47, V.sl .no T_api_Expr es48], V.int .i64 (IntKind.wrap .i64 (a2 + (1 : Int)))] [Blk.cells T_syntax_writer [V.sl (Tok.row 0) T_string es39, V.bool b40, V.int .i64 n41] false] none).bind (fun r49 => Blk.asCells (List.getD (Res.bl r49) 0 (Blk.cells T_n0 [] true)) T_syntax_writer 3 (fun rd50 => V.asSlR (rd50 0) 0 T_string (fun es51 => V.asBool (rd50 1) (fun b52 => V.asInt (rd50 2) .i64 (fun n53 => Res.onRet r49 (fun v54 => V.asTup v54 0 (fun rd55 => (den Sp syntax_writer_put.id [V.ref 0 0, V.sl .no T_string [[V.str (ByteArray.mk #[93])]]] [Blk.cells T_syntax_writer [V.sl (Tok.row 0) T_string es51, V.bool b52, V.int .i64 n53] false] none).bind (fun r57 => Blk.asCells (List.getD (Res.bl r57) 0 (Blk.cells T_n0 [] true)) T_syntax_writer 3 (fun rd58 => V.asSlR (rd58 0) 0 T_string (fun es59 => V.asBool (rd58 1) (fun b60 => V.asInt (rd58 2) .i64 (fun n61 => Res.onRet r57 (fun v62 => V.asTup v62 0 (fun rd63 => some ⟨Out.ret (V.tup []), [Blk.cells T_syntax_writer [V.sl (Tok.row 0) T_string es59, V.bool b60, V.int .i64 n61] false], none⟩))))))))))))))))))) else none))))))) else (some ⟨Out.ret (V.tup []), [Blk.cells T_syntax_writer [V.sl (Tok.row 0) T_string es30, V.bool b31, V.int .i64 n32] false], none⟩)))))))) else (bif (a1_0 == (5 : Int)) then (den Sp syntax_writer_put.id [V.ref 0 0, V.sl .no T_string [[V.str a1_1]]] [Blk.cells T_syntax_writer [V.sl (Tok.row 0) T_string es16, V.bool b17, V.int .i64 n18] false] none).bind (fun r29 => Blk.asCells (List.getD (Res.bl r29) 0 (Blk.cells T_n0 [] true)) T_syntax_writer 3 (fun rd30 => V.asSlR (rd30 0) 0 T_string (fun es31 => V.asBool (rd30 1) (fun b32 => V.asInt (rd30 2) .i64 (fun n33 => Res.onRet r29 (fun v34 => V.asTup v34 0 (fun rd35 => if (((0 : Int) <= (0 : Int)) ∧ ((0 : Int) < (a1_3.length : Int))) then (V.asInt (List.getD (List.getD a1_3 0 []) 0 V.undef) .i64 (fun n38 => V.asStr (List.getD (List.getD a1_3 0 []) 1 V.undef) (fun s39 => V.asInt (List.getD (List.getD a1_3 0 []) 2 V.undef) .i64 (fun n40 => V.asSl (List.getD (List.getD a1_3 0 []) 3 V.undef) T_api_Expr (fun es41 => (den Sp syntax_writer_operand.id [V.ref 0 0, V.agg [V.int .i64 n38, V.str s39, V.int .i64 n40, V.sl .no T_api_Expr es41], V.int .i64 (IntKind.wrap .i64 (a2 + (1 : Int)))] [Blk.cells T_syntax_writer [V.sl (Tok.row 0) T_string es31, V.bool b32, V.int .i64 (if ((IntKind.wrap .i64 (a2 + (1 : Int))) > n33) then (IntKind.wrap .i64 (a2 + (1 : Int))) else n33)] false] none).bind (fun r42 => Blk.asCells (List.getD (Res.bl r42) 0 (Blk.cells T_n0 [] true)) T_syntax_writer 3 (fun rd43 => V.asSlR (rd43 0) 0 T_string (fun es44 => V.asBool (rd43 1) (fun b45 => V.asInt (rd43 2) .i64 (fun n46 => Res.onRet r42 (fun v47 => V.asTup v47 0 (fun rd48 => some ⟨Out.ret (V.tup []), [Blk.cells T_syntax_writer [V.sl (Tok.row 0) T_string es44, V.bool b45, V.int .i64 n46] false], none⟩)))))))))))) else none))))))) else (bif (a1_0 == (6 : Int)) then (if (((0 : Int) <= (0 : Int)) ∧ ((0 : Int) < (a1_3.length : Int))) then (V.asInt (List.getD (List.getD a1_3 0 []) 0 V.undef) .i64 (fun n30 => V.asStr (List.getD (List.getD a1_3 0 []) 1 V.undef) (fun s31 => V.asInt (List.getD (List.getD a1_3 0 []) 2 V.undef) .i64 (fun n32 => V.asSl (List.getD (List.getD a1_3 0 []) 3 V.undef) T_api_Expr (fun es33 => (den Sp syntax_writer_operand.id [V.ref 0 0, V.agg [V.int .i64 n30, V.str s31, V.int .i64 n32, V.sl .no T_api_Expr es33], V.int .i64 a2] [Blk.cells T_syntax_writer [V.sl (Tok.row 0) T_string es16, V.bool b17, V.int .i64 n18] false] none).bind (fun r34 => Blk.asCells (List.getD (Res.bl r34) 0 (Blk.cells T_n0 [] true)) T_syntax_writer 3 (fun rd35 => V.asSlR (rd35 0) 0 T_string (fun es36 => V.asBool (rd35 1) (fun b37 => V.asInt (rd35 2) .i64 (fun n38 => Res.onRet r34 (fun v39 => V.asTup v39 0 (fun rd40 => (den Sp syntax_writer_put.id [V.ref 0 0, V.sl .no T_string [[V.str a1_1]]] [Blk.cells T_syntax_writer [V.sl (Tok.row 0) T_string es36, V.bool b37, V.int .i64 n38] false] none).bind (fun r42 => Blk.asCells (List.getD (Res.bl r42) 0 (Blk.cells T_n0 [] true)) T_syntax_writer 3 (fun rd43 => V.asSlR (rd43 0) 0 T_string (fun es44 => V.asBool (rd43 1) (fun b45 => V.asInt (rd43 2) .i64 (fun n46 => Res.onRet r42 (fun v47 => V.asTup v47 0 (fun rd48 => if (((0 : Int) <= (1 : Int)) ∧ ((1 : Int) < (a1_3.length : Int))) then (V.asInt (List.getD (List.getD a1_3 1 []) 0 V.undef) .i64 (fun n50 => V.asStr (List.getD (List.getD a1_3 1 []) 1 V.undef) (fun s51 => V.asInt (List.getD (List.getD a1_3 1 []) 2 V.undef) .i64 (fun n52 => V.asSl (List.getD (List.getD a1_3 1 []) 3 V.undef) T_api_Expr (fun es53 => (den Sp syntax_writer_operand.id [V.ref 0 0, V.agg [V.int .i64 n50, V.str s51, V.int .i64 n52, V.sl .no T_api_Expr es53], V.int .i64 a2] [Blk.cells T_syntax_writer [V.sl (Tok.row 0) T_string es44, V.bool b45, V.int .i64 n46] false] none).bind (fun r54 => Blk.asCells (List.getD (Res.bl r54) 0 (Blk.cells T_n0 [] true)) T_syntax_writer 3 (fun rd55 => V.asSlR (rd55 0) 0 T_string (fun es56 => V.asBool (rd55 1) (fun b57 => V.asInt (rd55 2) .i64 (fun n58 => Res.onRet r54 (fun v59 => V.asTup v59 0 (fun rd60 => some ⟨Out.ret (V.tup []), [Blk.cells T_syntax_writer [V.sl (Tok.row 0) T_string es56, V.bool b57, V.int .i64 n58] false], none⟩)))))))))))) else none))))))))))))))))))) else none) else (some ⟨Out.ret (V.tup []), [Blk.cells T_syntax_writer [V.sl (Tok.row 0) T_string es16, V.bool b17, V.int .i64 n18] false], none⟩))))))))))))))))) := (den_eq ..).trans (by kernel_rfl)
end syntax_writer_expr
namespace syntax_writer_operand
theorem eq (m0_0 : List (List V)) (m0_1 : Bool) (m0_2 a1_0 : Int) (a1_1 : ByteArray) (a1_2 : Int) (a1_3 : List (List V)) (a2 : Int) : den Sp id [V.ref 0 0, V.agg [V.int .i64 a1_0, V.str a1_1, V.int .i64 a1_2, V.sl .no T_api_Expr a1_3], V.int .i64 a2] [Blk.cells T_syntax_writer [V.sl (Tok.row 0) T_string m0_0, V.bool m0_1, V.int .i64 m0_2] false] none =
  (bif (a1_0 == (6 : Int)) then (den Sp syntax_writer_put.id [V.ref 0 0, V.sl .no T_string [[V.str (ByteArray.mk #[40])]]] [Blk.cells T_syntax_writer [V.sl (Tok.row 0) T_string m0_0, V.bool m0_1, V.int .i64 m0_2] false] none).bind (fun r11 => Blk.asCells (List.getD (Res.bl r11) 0 (Blk.cells T_n0 [] true)) T_syntax_writer 3 (fun rd12 => V.asSlR (rd12 0) 0 T_string (fun es13 => V.asBool (rd12 1) (fun b14 => V.asInt (rd12 2) .i64 (fun n15 => Res.onRet r11 (fun v16 => V.asTup v16 0 (fun rd17 => (den Sp syntax_writer_expr.id [V.ref 0 0, V.agg [V.int .i64 a1_0, V.str a1_1, V.int .i64 a1_2, V.sl .no T_api_Expr a1_3], V.int .i64 (IntKind.wrap .i64 (a2 + (1 : Int)))] [Blk.cells T_syntax_writer [V.sl (Tok.row 0) T_string es13, V.bool b14, V.int .i64 n15] false] none).bind (fun r19 => Blk.asCells (List.getD (Res.bl r19) 0 (Blk.cells T_n0 [] true)) T_syntax_writer 3 (fun rd20 => V.asSlR (rd20 0) 0 T_string (fun es21 => V.asBool (rd20 1) (fun b22 => V.asInt (rd20 2) .i64 (fun n23 => Res.onRet r19 (fun v24 => V.asTup v24 0 (fun rd25 => (den Sp syntax_writer_put.id [V.ref 0 0, V.sl .no T_string [[V.str (ByteArray.mk #[41])]]] [Blk.cells T_syntax_writer [V.sl (Tok.row 0) T_string es21, V.bool b22, V.int .i64 n23] false] none).bind (fun r27 => Blk.asCells (List.getD (Res.bl r27) 0 (Blk.cells T_n0 [] true)) T_syntax_writer 3 (fun rd28 => V.asSlR (rd28 0) 0 T_string (fun es29 => V.asBool (rd28 1) (fun b30 => V.asInt (rd28 2) .i64 (fun n31 => Res.onRet r27 (fun v32 => V.asTup v32 0 (fun rd33 => some ⟨Out.ret (V.tup []), [Blk.cells T_syntax_writer [V.sl (Tok.row 0) T_string es29, V.bool b30, V.int .i64 n31] false], none⟩))))))))))))))))))))) else (den Sp syntax_writer_expr.id [V.ref 0 0, V.agg [V.int .i64 a1_0, V.str a1_1, V.int .i64 a1_2, V.sl .no T_api_Expr a1_3], V.int .i64 a2] [Blk.cells T_syntax_writer [V.sl (Tok.row 0) T_string m0_0, V.bool m0_1, V.int .i64 m0_2] false] none).bind (fun r11 => Blk.asCells (List.getD (Res.bl r11) 0 (Blk.cells T_n0 [] true)) T_syntax_writer 3 (fun rd12 => V.asSlR (rd12 0) 0 T_string (fun es13 => V.asBool (rd12 1) (fun b14 => V.asInt (rd12 2) .i64 (fun n15 => Res.onRet r11 (fun v16 => V.asTup v16 0 (fun rd17 => some ⟨Out.ret (V.tup []), [Blk.cells T_syntax_writer [V.sl (Tok.row 0) T_string es13, V.bool b14, V.int .i64 n15] false], none⟩)))))))) := (den_eq ..).trans (by kernel_rfl)
end syntax_writer_operand
namespace syntax_writer_done
theorem eq (m0_0 : List (List V)) (m0_1 : Bool) (m0_2 : Int) : den Sp id [V.ref 0 0] [Blk.cells T_syntax_writer [V.sl (Tok.row 0) T_string m0_0, V.bool m0_1, V.int .i64 m0_2] false] none =
  (bif m0_1 then (some ⟨Out.ret (V.tup [V.str (ByteArray.mk #[]), V.int .i64 (32 : Int)]), [Blk.cells T_syntax_writer [V.sl (Tok.row 0) T_string m0_0, V.bool m0_1, V.int .i64 m0_2] false], none⟩) else (bif (decide (m0_2 > (60 : Int))) then (some ⟨Out.ret (V.tup [V.str (ByteArray.mk #[]), V.int .i64 (31 : Int)]), [Blk.cells T_syntax_writer [V.sl (Tok.row 0) T_string m0_0, V.bool m0_1, V.int .i64 m0_2] false], none⟩) else (den Sp num_Join.id [V.sl .no T_string m0_0] [] none).bind (fun r7 => Res.onRet r7 (fun v8 => V.asStr v8 (fun s9 => some ⟨Out.ret (V.tup [V.str s9, V.int .i64 (0 : Int)]), [Blk.cells T_syntax_writer [V.sl (Tok.row 0) T_string m0_0, V.bool m0_1, V.int .i64 m0_2] false], none⟩))))) := (den_eq ..).trans (by kernel_rfl)
end syntax_writer_done
namespace syntax_PrintExpr
theorem eq (a0_0 : Int) (a0_1 : ByteArray) (a0_2 : Int) (a0_3 : List (List V)) : den Sp id [V.agg [V.int .i64 a0_0, V.str a0_1, V.int .i64 a0_2, V.sl .no T_api_Expr a0_3]] [] none =
  (den Sp syntax_writer_expr.id [V.ref 0 0, V.agg [V.int .i64 a0_0, V.str a0_1, V.int .i64 a0_2, V.sl .no T_api_Expr a0_3], V.int .i64 (1 : Int)] [Blk.cells T_syntax_writer [V.sl (Tok.row 0) T_string [], V.bool false, V.int .i64 (0 : Int)] false] none).bind (fun r7 => Blk.asCells (List.getD (Res.bl r7) 0 (Blk.cells T_n0 [] true)) T_syntax_writer 3 (fun rd8 => V.asSlR (rd8 0) 0 T_string (fun es9 => V.asBool (rd8 1) (fun b10 => V.asInt (rd8 2) .i64 (fun n11 => Res.onRet r7 (fun v12 => V.asTup v12 0 (fun rd13 => (den Sp syntax_writer_done.id [V.ref 0 0] [Blk.cells T_syntax_writer [V.sl (Tok.row 0) T_string es9, V.bool b10, V.int .i64 n11] false] none).bind (fun r15 => Blk.asCells (List.getD (Res.bl r15) 0 (Blk.cells T_n0 [] true)) T_syntax_writer 3 (fun rd16 => V.asSlR (rd16 0) 0 T_string (fun es17 => V.asBool (rd16 1) (fun b18 => V.asInt (rd16 2) .i64 (fun n19 => Res.onRet r15 (fun v20 => V.asTup v20 2 (fun rd21 => V.asStr (rd21 0) (fun s22 => V.asInt (rd21 1) .i64 (fun n23 => some ⟨Out.ret (V.tup [V.str s22, V.int .i64 n23]), [], none⟩)))))))))))))))) := (den_eq ..).trans (by kernel_rfl)
end syntax_PrintExpr
end Go.Proofs.YtmhnmelaodhemaaDoor
namespace Go.Proofs.YtmhnmelaodhemaaDoor
open Go Go.Proofs.Ab Go.Proofs.Px
theorem level_is (s : List UInt8) : den Sp syntax_level.id [.str (B s)] [] none = some ⟨.ret (.int .i64 (levelP s)), [], none⟩ := by
 rw [syntax_level.eq]
 unfold levelP
 by_cases h1 : s = [124, 124]
 ·subst h1; rfl
 by_cases h2 : s = [38, 38]
 ·subst h2; rfl
 by_cases h3 : s = [61, 61]
 ·subst h3; rfl
 by_cases h4 : s = [33, 61]
 ·subst h4; rfl
 by_cases h5 : s = [60]
 ·subst h5; rfl
 by_cases h6 : s = [60, 61]
 ·subst h6; rfl
 by_cases h7 : s = [43]
 ·subst h7; rfl
 by_cases h8 : s = [45]
 ·subst h8; rfl
 by_cases h9 : s = [42]
 ·subst h9; rfl
 by_cases h10 : s = [47]
 ·subst h10; rfl
 by_cases h11 : s = [37]
 ·subst h11; rfl
 simp [h1, h2, h3, h4, h5, h6, h7, h8, h9, h10, h11]
theorem plain_is (k : Int) (n : List UInt8) (m : Int) (l : List Ex) : den Sp syntax_plain.id [.agg (Ex.v (.mk k n m l))] [] none = some ⟨.ret (.bool (plainK k n m l.length)), [], none⟩ := by
 rw [Ex.v_mk, syntax_plain.eq, level_is, List.length_map]
 unfold plainK
 by_cases h1 : k = 1
 ·subst h1
  by_cases c1 : n = [] <;> by_cases c2 : 0 <= m <;> simp [c1, c2] <;> omega
 by_cases h2 : k = 2
 ·subst h2
  by_cases c1 : n = [] <;> by_cases c2 : m = 0 <;> by_cases c3 : m = 1 <;> simp [c1, c2, c3] <;> omega
 by_cases h3 : k = 3
 ·subst h3
  by_cases c1 : n = [] <;> by_cases c2 : m = 0 <;> simp [c1, c2] <;> omega
 by_cases h4 : k = 4
 ·subst h4
  by_cases c1 : n = [] <;> by_cases c2 : m = 0 <;> simp [c1, c2] <;> omega
 by_cases h5 : k = 5
 ·subst h5
  by_cases c1 : n = []
  ·subst c1; simp
  ·by_cases c2 : m = 0 <;> by_cases c3 : n = [45] <;> by_cases c4 : n = [33] <;> simp [c1, c2, c3, c4] <;> omega
 by_cases h6 : k = 6
 ·subst h6
  by_cases c1 : n = []
  ·subst c1; simp [levelP]
  ·by_cases c2 : m = 0 <;> by_cases c3 : 0 < levelP n <;> simp [c1, c2, c3] <;> omega
 by_cases c1 : n = [] <;> by_cases c2 : m = 0 <;> simp [h1, h2, h3, h4, h5, h6, c1, c2]
def wB (ws : List (List UInt8)) (b : Bool) (d : Int) : Blk := .cells T_syntax_writer [.sl (.row 0) T_string (sv ws), .bool b, .int .i64 d] false
theorem sv_append (a b : List (List UInt8)) : sv a ++ sv b = sv (a ++ b) := by simp [sv]
theorem put_is (ws l : List (List UInt8)) (b : Bool) (d : Int) (h : ws.length + l.length <= 1099511627776) : den Sp syntax_writer_put.id [.ref 0 0, .sl .no T_string (sv l)] [wB ws b d] none = some ⟨.ret (.tup []), [wB (ws ++ l) b d], none⟩ := by
 unfold wB
 rw [syntax_writer_put.eq, sv_len, sv_len, most_if h, sv_append]
theorem need_is (ws : List (List UInt8)) (b ok : Bool) (d : Int) : den Sp syntax_writer_need.id [.ref 0 0, .bool ok] [wB ws b d] none = some ⟨.ret (.tup []), [wB ws (b || !ok) d], none⟩ := by
 unfold wB
 rw [syntax_writer_need.eq]
 cases b <;> rfl
theorem wname_is (ws : List (List UInt8)) (n : List UInt8) (b : Bool) (d : Int) (hn : n.length <= 140737488351232) (h : ws.length + 1 <= 1099511627776) :
  den Sp syntax_writer_name.id [.ref 0 0, .str (B n)] [wB ws b d] none = some ⟨.ret (.tup []), [wB (ws ++ [n]) (b || !isName (B n)) d], none⟩ := by
 have e1 := need_is ws b (isName (B n)) d
 have e2 := put_is ws [n] (b || !isName (B n)) d (by simpa using h)
 unfold wB at *
 rw [syntax_writer_name.eq, lex_IsName_is _ (by rw [B_size]; omega)]
 simp [e1]
 rw [show ([[V.str (B n)]] : List (List V)) = sv [n] from rfl, e2]
 simp
def WrE (f : Nat) (x : Ex) (w : List (List UInt8)) (h : Int) (c : Nat) (e : Int) : Prop :=
 ∀ (ws : List (List UInt8)) (b : Bool) (d t : Int), 0 <= t -> t + 4 * (x.size : Int) + e <= 1099511627776 -> ws.length + c <= 1099511627776 ->
  ∃ (ws' : List (List UInt8)) (b' : Bool) (d' : Int), den Sp f [.ref 0 0, .agg x.v, .int .i64 t] [wB ws b d] none = some ⟨.ret (.tup []), [wB ws' b' d'], none⟩ ∧
   ws'.length <= ws.length + c ∧ b' = (b || !okX x) ∧ (b' = false -> ws' = ws ++ w ∧ d' = max d (t + h))
theorem operand_of (x : Ex) (hE : WrE syntax_writer_expr.id x (exW x) (hX x) (8 * x.size) 0) : WrE syntax_writer_operand.id x (sideW x.kind (exW x)) (sideH x.kind (hX x)) (8 * x.size + 2) 1 := by
 intro ws b d t ht ht2 hl
 have hp := Ex.size_pos x
 by_cases hk : x.kind = 6
 ·obtain ⟨ws1, b1, d1, e1, f1, f2, f3⟩ := hE (ws ++ [[40]]) b d (t + 1) (by omega) (by omega) (by simp; omega)
  have p1 : den Sp syntax_writer_put.id [.ref 0 0, .sl .no T_string [[.str (B [40])]]] [wB ws b d] none = _ := put_is ws [[40]] b d (by simp; omega)
  have p2 : den Sp syntax_writer_put.id [.ref 0 0, .sl .no T_string [[.str (B [41])]]] [wB ws1 b1 d1] none = _ := put_is ws1 [[41]] b1 d1 (by simp at f1 ⊢; omega)
  have w1 : IntKind.wrap .i64 (t + 1) = t + 1 := wrap_in (by omega) (by omega)
  refine ⟨ws1 ++ [[41]], b1, d1, ?_, by simp at f1 ⊢; omega, f2, fun h => ?_⟩
  ·unfold wB at *
   have e0 := Ex.v_is x
   rw [e0, syntax_writer_operand.eq, <- e0]
   simp [hk, p1, w1, e1, p2]
  ·obtain ⟨g1, g2⟩ := f3 h
   refine ⟨by rw [g1]; simp [sideW, hk], by rw [g2]; unfold sideH; rw [if_pos hk]; omega⟩
 ·obtain ⟨ws1, b1, d1, e1, f1, f2, f3⟩ := hE ws b d t ht (by omega) (by omega)
  refine ⟨ws1, b1, d1, ?_, by omega, f2, fun h => ?_⟩
  ·unfold wB at *
   have e0 := Ex.v_is x
   rw [e0, syntax_writer_operand.eq, <- e0]
   simp [hk, e1]
  ·obtain ⟨g1, g2⟩ := f3 h
   refine ⟨by rw [g1]; simp [sideW, hk], by rw [g2]; unfold sideH; rw [if_neg hk]⟩
theorem wexpr_is : ∀ x : Ex, ExOk x -> WrE syntax_writer_expr.id x (exW x) (hX x) (8 * x.size) 0 := by
 refine Ex.ind fun k n m l ih ho => ?_
 intro ws b d t ht ht2 hl
 obtain ⟨ok, on, om, ol, oh⟩ := ho.inv
 rw [Ex.size] at ht2 hl ⊢
 have e1 := plain_is k n m l
 have e2 := need_is ws b (plainK k n m l.length) (if t > d then t else d)
 rw [Ex.v_mk] at e1 ⊢
 rw [exW, hX, okX]
 cases hb : (b || !plainK k n m l.length) with
 | true =>
  refine ⟨ws, true, if t > d then t else d, ?_, by omega, ?_, nofun⟩
  ·unfold wB at *
   rw [syntax_writer_expr.eq]
   simp [e1, e2, hb]
  ·cases b <;> simp at hb ⊢
   simp [hb]
 | false =>
  obtain ⟨rfl, hp⟩ : b = false ∧ plainK k n m l.length = true := by
   cases b <;> simp at hb ⊢
   exact hb
  rw [hp] at e1 e2
  simp only [Bool.not_true, Bool.or_false, hp, Bool.true_and, Bool.false_or] at e2 ⊢
  have hm64 := om
  generalize hD : (if t > d then t else d) = D at e2
  have hD2 : D = max d t := by rw [<- hD]; split <;> omega
  have w1 : IntKind.wrap .i64 (t + 1) = t + 1 := wrap_in (by omega) (by omega)
  unfold wK hK
  rcases plain_forms hp with ⟨rfl, rfl, hm, rfl⟩ | ⟨rfl, rfl, hm, rfl⟩ | ⟨rfl, hn, rfl, rfl⟩ | ⟨rfl, hn, rfl, x, rfl⟩ | ⟨rfl, hn, rfl, x, rfl⟩ | ⟨rfl, hn, rfl, x, y, rfl⟩ <;> simp only [List.map_nil, List.map_cons] at e1 ⊢
  ·have p1 : den Sp syntax_writer_put.id [.ref 0 0, .sl .no T_string [[.str (B (decs m))]]] [wB ws false D] none = _ := put_is ws [decs m] false D (by simp; omega)
   obtain ⟨m1, m2⟩ := i64_bounds om
   refine ⟨ws ++ [decs m], false, D, ?_, by simp; omega, by simp [namedK, okXs], fun _ => ⟨by simp, by simp; omega⟩⟩
   unfold wB at *
   rw [syntax_writer_expr.eq]
   simp [e1, e2, hD, num_Text_is m m1 m2, p1]
  ·have p1 : den Sp syntax_writer_put.id [.ref 0 0, .sl .no T_string [[.str (B [116, 114, 117, 101])]]] [wB ws false D] none = _ := put_is ws [[116, 114, 117, 101]] false D (by simp; omega)
   have p2 : den Sp syntax_writer_put.id [.ref 0 0, .sl .no T_string [[.str (B [102, 97, 108, 115, 101])]]] [wB ws false D] none = _ := put_is ws [[102, 97, 108, 115, 101]] false D (by simp; omega)
   by_cases c : m = 1
   ·subst c
    refine ⟨ws ++ [[116, 114, 117, 101]], false, D, ?_, by simp; omega, by simp [namedK, okXs], fun _ => ⟨by simp, by simp; omega⟩⟩
    unfold wB at *
    rw [syntax_writer_expr.eq]
    simp [e1, e2, hD, p1]
   ·refine ⟨ws ++ [[102, 97, 108, 115, 101]], false, D, ?_, by simp; omega, by simp [namedK, okXs], fun _ => ⟨by simp [c], by simp; omega⟩⟩
    unfold wB at *
    rw [syntax_writer_expr.eq]
    simp [e1, e2, hD, c, p2]
  ·have p1 := wname_is ws n false D on (by omega)
   refine ⟨ws ++ [n], !isName (B n), D, ?_, by simp; omega, by simp [namedK, okXs], fun _ => ⟨by simp, by simp; omega⟩⟩
   unfold wB at *
   rw [syntax_writer_expr.eq]
   simp [e1, e2, hD, p1]
  ·have hsx : Ex.sizes [x] = x.size := by simp [Ex.sizes]
   have p1 := wname_is ws n false D on (by omega)
   rw [Bool.false_or] at p1
   have p2 : den Sp syntax_writer_put.id [.ref 0 0, .sl .no T_string [[.str (B [91])]]] [wB (ws ++ [n]) (!isName (B n)) D] none = _ := put_is (ws ++ [n]) [[91]] (!isName (B n)) D (by simp; omega)
   obtain ⟨ws1, b1, d1, q1, q2, q3, q4⟩ := ih x (by simp) (oh x (by simp)) (ws ++ [n, [91]]) (!isName (B n)) D (t + 1) (by omega) (by omega) (by simp; omega)
   have p3 : den Sp syntax_writer_put.id [.ref 0 0, .sl .no T_string [[.str (B [93])]]] [wB ws1 b1 d1] none = _ := put_is ws1 [[93]] b1 d1 (by simp at q2 ⊢; omega)
   refine ⟨ws1 ++ [[93]], b1, d1, ?_, by simp at q2 ⊢; omega, by rw [q3]; simp [namedK, okXs], fun h => ?_⟩
   ·unfold wB at *
    rw [syntax_writer_expr.eq]
    simp [e1, e2, hD, p1, p2, w1, q1, p3]
   ·obtain ⟨g1, g2⟩ := q4 h
    have ho : okX x = true := by
     rw [q3] at h
     cases c : okX x with
     | true => rfl
     | false => simp [c] at h
    obtain ⟨_, h0, _⟩ := okX_weigh x ho
    refine ⟨by rw [g1]; simp [exWs], ?_⟩
    rw [g2]; simp [hXs]; omega
  ·have hsx : Ex.sizes [x] = x.size := by simp [Ex.sizes]
   have p1 : den Sp syntax_writer_put.id [.ref 0 0, .sl .no T_string [[.str (B n)]]] [wB ws false D] none = _ := put_is ws [n] false D (by simp; omega)
   obtain ⟨ws1, b1, d1, q1, q2, q3, q4⟩ := operand_of x (ih x (by simp) (oh x (by simp))) (ws ++ [n]) false (if t + 1 > D then t + 1 else D) (t + 1) (by omega) (by omega) (by simp; omega)
   refine ⟨ws1, b1, d1, ?_, by simp at q2 ⊢; omega, by rw [q3]; simp [namedK, okXs], fun h => ?_⟩
   ·unfold wB at *
    rw [syntax_writer_expr.eq]
    simp [e1, e2, hD, p1, w1, q1]
   ·obtain ⟨g1, g2⟩ := q4 h
    have ho : okX x = true := by
     rw [q3] at h
     cases c : okX x with
     | true => rfl
     | false => simp [c] at h
    obtain ⟨_, h0, _⟩ := okX_weigh x ho
    refine ⟨by rw [g1]; simp [exWs], ?_⟩
    rw [g2]; simp [hXs]
    unfold sideH
    split <;> split <;> omega
  ·have hsx : Ex.sizes [x, y] = x.size + y.size := by simp [Ex.sizes]
   have p2 : ∀ (ws : List (List UInt8)) (b : Bool) (d : Int), ws.length + 1 <= 1099511627776 -> den Sp syntax_writer_put.id [.ref 0 0, .sl .no T_string [[.str (B n)]]] [wB ws b d] none = some ⟨.ret (.tup []), [wB (ws ++ [n]) b d], none⟩ := fun ws b d h => put_is ws [n] b d (by simpa using h)
   obtain ⟨ws1, b1, d1, q1, q2, q3, q4⟩ := operand_of x (ih x (by simp) (oh x (by simp))) ws false D t (by omega) (by omega) (by omega)
   have p3 := p2 ws1 b1 d1 (by omega)
   obtain ⟨ws2, b2, d2, r1, r2, r3, r4⟩ := operand_of y (ih y (by simp) (oh y (by simp))) (ws1 ++ [n]) b1 d1 t (by omega) (by omega) (by simp; omega)
   refine ⟨ws2, b2, d2, ?_, by simp at r2 ⊢; omega, by rw [r3, q3]; simp [namedK, okXs], fun h => ?_⟩
   ·unfold wB at *
    rw [syntax_writer_expr.eq]
    simp [e1, e2, hD, q1, p3, r1]
   ·obtain ⟨g1, g2⟩ := r4 h
    have h1 : b1 = false := by
     rw [r3] at h
     cases b1 <;> simp at h ⊢
    obtain ⟨g3, g4⟩ := q4 h1
    have ho : okX x = true := by
     rw [q3] at h1
     cases c : okX x with
     | true => rfl
     | false => simp [c] at h1
    obtain ⟨_, h0, _⟩ := okX_weigh x ho
    refine ⟨by rw [g1, g3]; simp [exWs], ?_⟩
    rw [g2, g4]; simp [hXs]
    unfold sideH
    split <;> split <;> omega
theorem done_is (ws : List (List UInt8)) (b : Bool) (d : Int) (hl : ws.length < 4611686018427387904) (hw : b = false -> ¬ 60 < d -> weighW ws <= 1099511627776) : den Sp syntax_writer_done.id [.ref 0 0] [wB ws b d] none =
  some ⟨.ret (if b then .tup [.str (B []), .int .i64 32] else if 60 < d then .tup [.str (B []), .int .i64 31] else .tup [.str (B (joinL ws)), .int .i64 0]), [wB ws b d], none⟩ := by
 unfold wB
 rw [syntax_writer_done.eq]
 cases b with
 | true => rfl
 | false =>
  by_cases c : 60 < d
  ·simp [c]
  ·simp [c, num_Join_is ws hl (hw rfl c)]
theorem syntax_PrintExpr_is (x : Ex) (ho : ExOk x) (hs : x.size <= 1000000) : den Sp syntax_PrintExpr.id [.agg x.v] [] none = some ⟨.ret (.tup [.str (B (prX x).1), .int .i64 (prX x).2]), [], none⟩ := by
 obtain ⟨ws, b, d, e1, e2, e3, e4⟩ := wexpr_is x ho [] false 0 1 (by omega) (by omega) (by simp; omega)
 have hw : b = false -> ¬ 60 < d -> weighW ws <= 1099511627776 := by
  intro hb _
  rw [(e4 hb).1]
  have ok : okX x = true := by
   rw [e3] at hb
   cases c : okX x with
   | true => rfl
   | false => simp [c] at hb
  have := (okX_weigh x ok).1
  simp; omega
 have e5 := done_is ws b d (by simp at e2; omega) hw
 have e1 : den Sp syntax_writer_expr.id [.ref 0 0, .agg x.v, .int .i64 1] [.cells T_syntax_writer [.sl (.row 0) T_string [], .bool false, .int .i64 0] false] none = _ := e1
 unfold wB at *
 have e0 := Ex.v_is x
 rw [e0, syntax_PrintExpr.eq, <- e0]
 unfold prX
 cases ok : okX x with
 | true =>
  simp only [ok, Bool.not_true, Bool.or_false] at e3
  subst e3
  obtain ⟨g1, g2⟩ := e4 rfl
  have h0 := (okX_weigh x ok).2.1
  have g3 : d = 1 + hX x := by omega
  subst g3
  rw [List.nil_append] at g1
  subst g1
  by_cases c : 60 < 1 + hX x <;> simp [e1, e5, c]
 | false =>
  simp only [ok, Bool.not_false, Bool.or_true] at e3
  subst e3
  simp [e1, e5]
end Go.Proofs.YtmhnmelaodhemaaDoor
namespace Go.Proofs.YtmhnmelaodhemaaDoor
open Go Go.Proofs.Ab
namespace decl_isName
noncomputable abbrev e (p : List Nat) := ev Sp (den Sp) id Tryd.f16.ntmps (cAt (bodyOf Tryd.f16) p)
noncomputable abbrev cn (n0 : List Nat) := canon Sp id n0
noncomputable abbrev K : K := kFin Sp (den Sp) Tryd.f16 0
noncomputable def L1_0_1_0 (l0 : List (List V)) (i1 i2 : Int) : Option Res := LP (e [1, 0, 1, 0, 0]) (cn []) (kBlk 0 (kSeq (e [1, 1]) (K))) ([(5, (V.sl .no T_string l0)), (6, (V.int .i64 i1)), (7, (V.int .i64 i2))], ⟨[], [], [], [], none⟩)
theorem L1_0_1_0_eq (l0 : List (List V)) (i1 i2 : Int) : L1_0_1_0 l0 i1 i2 =
  (bif (decide (i2 < i1)) then (if (((0 : Int) <= i2) ∧ (i2 < (l0.length : Int))) then (V.asStr (List.getD (List.getD l0 (Int.toNat i2) []) 0 V.undef) (fun s8 => (den Sp lex_IsName.id [V.str s8] [] none).bind (fun r10 => Res.onRet r10 (fun v11 => V.asBool v11 (fun b12 => bif (!b12) then (some ⟨Out.ret (V.bool false), [], none⟩) else (L1_0_1_0 l0 i1 (IntKind.wrap .i64 (i2 + (1 : Int))))))))) else none) else (some ⟨Out.ret (V.bool true), [], none⟩)) := (LP_eq ..).trans (by kernel_rfl)
theorem eq (a0 : (List (List V))) : den Sp id [V.sl .no T_string a0] [] none =
  (L1_0_1_0 a0 (a0.length : Int) (0 : Int)) := (den_eq ..).trans (by kernel_rfl)
end decl_isName
namespace decl_writer_names
noncomputable abbrev e (p : List Nat) := ev Sp (den Sp) id Tryd.f17.ntmps (cAt (bodyOf Tryd.f17) p)
noncomputable abbrev cn (n0 : List Nat) := canon Sp id n0
noncomputable abbrev K : K := kFin Sp (den Sp) Tryd.f17 1
noncomputable def L0_1_0 (l0 l1 : List (List V)) (i2 i3 : Int) (l4 : List (List V)) (b5 : Bool) : Option Res := LP (e [0, 1, 0, 0]) (cn [0]) (kBlk 0 (kSeq (e [1]) (K))) ([(0, (V.ref 0 0)), (1, (V.sl .no T_string l0)), (6, (V.sl .no T_string l1)), (7, (V.int .i64 i2)), (8, (V.int .i64 i3))], ⟨[(0, (Blk.cells T_decl_writer [V.sl (Tok.row 0) T_string l4, V.bool b5] false))], [0], [], [], none⟩)
theorem L0_1_0_eq (l0 l1 : List (List V)) (i2 i3 : Int) (l4 : List (List V)) (b5 : Bool) : L0_1_0 l0 l1 i2 i3 l4 b5 =
  (bif (decide (i3 < i2)) then (if (((0 : Int) <= i3) ∧ (i3 < (l1.length : Int))) then (V.asStr (List.getD (List.getD l1 (Int.toNat i3) []) 0 V.undef) (fun s12 => bif b5 then (L0_1_0 l0 l1 i2 (IntKind.wrap .i64 (i3 + (1 : Int))) l4 true) else (den Sp lex_IsName.id [V.str s12] [] none).bind (fun r14 => Res.onRet r14 (fun v15 => V.asBool v15 (fun b16 => bif (!b16) then (bif (!(decide (s12 = (ByteArray.mk #[40])))) then (L0_1_0 l0 l1 i2 (IntKind.wrap .i64 (i3 + (1 : Int))) l4 (!(decide (s12 = (ByteArray.mk #[41]))))) else (L0_1_0 l0 l1 i2 (IntKind.wrap .i64 (i3 + (1 : Int))) l4 false)) else (L0_1_0 l0 l1 i2 (IntKind.wrap .i64 (i3 + (1 : Int))) l4 false)))))) else none) else (if (((List.length l4) + (List.length l0)) <= most) then (some ⟨Out.ret (V.tup []), [Blk.cells T_decl_writer [V.sl (Tok.row 0) T_string (l4 ++ l0), V.bool b5] false], none⟩) else none)) := (LP_eq ..).trans (by kernel_rfl)
theorem eq (m0_0 : List (List V)) (m0_1 : Bool) (a1 : List (List V)) : den Sp id [V.ref 0 0, V.sl .no T_string a1] [Blk.cells T_decl_writer [V.sl (Tok.row 0) T_string m0_0, V.bool m0_1] false] none =
  (L0_1_0 a1 a1 (a1.length : Int) (0 : Int) m0_0 m0_1) := (den_eq ..).trans (by kernel_rfl)
end decl_writer_names
namespace decl_writer_side
theorem eq (m0_0 : List (List V)) (m0_1 : Bool) (a1 : Int) : den Sp id [V.ref 0 0, V.int .i64 a1] [Blk.cells T_decl_writer [V.sl (Tok.row 0) T_string m0_0, V.bool m0_1] false] none =
  (bif m0_1 then (bif (a1 == (1 : Int)) then (den Sp decl_writer_names.id [V.ref 0 0, V.sl .no T_string [[V.str (ByteArray.mk #[114, 105, 103, 104, 116])]]] [Blk.cells T_decl_writer [V.sl (Tok.row 0) T_string m0_0, V.bool true] false] none).bind (fun r6 => Blk.asCells (List.getD (Res.bl r6) 0 (Blk.cells T_n0 [] true)) T_decl_writer 2 (fun rd7 => V.asSlR (rd7 0) 0 T_string (fun es8 => V.asBool (rd7 1) (fun b9 => Res.onRet r6 (fun v10 => V.asTup v10 0 (fun rd11 => some ⟨Out.ret (V.tup []), [Blk.cells T_decl_writer [V.sl (Tok.row 0) T_string es8, V.bool b9] false], none⟩)))))) else (den Sp decl_writer_names.id [V.ref 0 0, V.sl .no T_string [[V.str (ByteArray.mk #[108, 101, 102, 116])]]] [Blk.cells T_decl_writer [V.sl (Tok.row 0) T_string m0_0, V.bool true] false] none).bind (fun r6 => Blk.asCells (List.getD (Res.bl r6) 0 (Blk.cells T_n0 [] true)) T_decl_writer 2 (fun rd7 => V.asSlR (rd7 0) 0 T_string (fun es8 => V.asBool (rd7 1) (fun b9 => Res.onRet r6 (fun v10 => V.asTup v10 0 (fun rd11 => some ⟨Out.ret (V.tup []), [Blk.cells T_decl_writer [V.sl (Tok.row 0) T_string es8, V.bool b9] false], none⟩))))))) else (bif (a1 != (0 : Int)) then (bif (a1 == (1 : Int)) then (den Sp decl_writer_names.id [V.ref 0 0, V.sl .no T_string [[V.str (ByteArray.mk #[114, 105, 103, 104, 116])]]] [Blk.cells T_decl_writer [V.sl (Tok.row 0) T_string m0_0, V.bool (a1 != (1 : Int))] false] none).bind (fun r6 => Blk.asCells (List.getD (Res.bl r6) 0 (Blk.cells T_n0 [] true)) T_decl_writer 2 (fun rd7 => V.asSlR (rd7 0) 0 T_string (fun es8 => V.asBool (rd7 1) (fun b9 => Res.onRet r6 (fun v10 => V.asTup v10 0 (fun rd11 => some ⟨Out.ret (V.tup []), [Blk.cells T_decl_writer [V.sl (Tok.row 0) T_string es8, V.bool b9] false], none⟩)))))) else (den Sp decl_writer_names.id [V.ref 0 0, V.sl .no T_string [[V.str (ByteArray.mk #[108, 101, 102, 116])]]] [Blk.cells T_decl_writer [V.sl (Tok.row 0) T_string m0_0, V.bool (a1 != (1 : Int))] false] none).bind (fun r6 => Blk.asCells (List.getD (Res.bl r6) 0 (Blk.cells T_n0 [] true)) T_decl_writer 2 (fun rd7 => V.asSlR (rd7 0) 0 T_string (fun es8 => V.asBool (rd7 1) (fun b9 => Res.onRet r6 (fun v10 => V.asTup v10 0 (fun rd11 => some ⟨Out.ret (V.tup []), [Blk.cells T_decl_writer [V.sl (Tok.row 0) T_string es8, V.bool b9] false], none⟩))))))) else (bif (a1 == (1 : Int)) then (den Sp decl_writer_names.id [V.ref 0 0, V.sl .no T_string [[V.str (ByteArray.mk #[114, 105, 103, 104, 116])]]] [Blk.cells T_decl_writer [V.sl (Tok.row 0) T_string m0_0, V.bool false] false] none).bind (fun r6 => Blk.asCells (List.getD (Res.bl r6) 0 (Blk.cells T_n0 [] true)) T_decl_writer 2 (fun rd7 => V.asSlR (rd7 0) 0 T_string (fun es8 => V.asBool (rd7 1) (fun b9 => Res.onRet r6 (fun v10 => V.asTup v10 0 (fun rd11 => some ⟨Out.ret (V.tup []), [Blk.cells T_decl_writer [V.sl (Tok.row 0) T_string es8, V.bool b9] false], none⟩)))))) else (den Sp decl_writer_names.id [V.ref 0 0, V.sl .no T_string [[V.str (ByteArray.mk #[108, 101, 102, 116])]]] [Blk.cells T_decl_writer [V.sl (Tok.row 0) T_string m0_0, V.bool false] false] none).bind (fun r6 => Blk.asCells (List.getD (Res.bl r6) 0 (Blk.cells T_n0 [] true)) T_decl_writer 2 (fun rd7 => V.asSlR (rd7 0) 0 T_string (fun es8 => V.asBool (rd7 1) (fun b9 => Res.onRet r6 (fun v10 => V.asTup v10 0 (fun rd11 => some ⟨Out.ret (V.tup []), [Blk.cells T_decl_writer [V.sl (Tok.row 0) T_string es8, V.bool b9] false], none⟩))))))))) := (den_eq ..).trans (by kernel_rfl)
end decl_writer_side
namespace decl_writer_end
theorem eq (m0_0 : List (List V)) (m0_1 : Bool) : den Sp id [V.ref 0 0] [Blk.cells T_decl_writer [V.sl (Tok.row 0) T_string m0_0, V.bool m0_1] false] none =
  (if (((List.length m0_0) + 1) <= most) then (some ⟨Out.ret (V.tup []), [Blk.cells T_decl_writer [V.sl (Tok.row 0) T_string (m0_0 ++ [[V.str (ByteArray.mk #[59])]]), V.bool m0_1] false], none⟩) else none) := (den_eq ..).trans (by kernel_rfl)
end decl_writer_end
namespace decl_writer_stop
noncomputable abbrev e (p : List Nat) := ev Sp (den Sp) id Tryd.f20.ntmps (cAt (bodyOf Tryd.f20) p)
noncomputable abbrev cn (n0 : List Nat) := canon Sp id n0
noncomputable abbrev K : K := kFin Sp (den Sp) Tryd.f20 1
noncomputable def L1_1_1_1_1_1_0_1_0 (l0 : List (List V)) (i1 i2 : Int) (l3 : List (List V)) (i4 : Int) (s5 : ByteArray) (i6 : Int) (l7 : List (List V)) : Option Res := LP (e [1, 1, 1, 1, 1, 1, 0, 1, 0, 0]) (cn [0, 1003]) (kBlk 0 (kSeq (e [1, 1, 1, 1, 1, 1, 1]) (K))) ([(0, (V.ref 0 0)), (51, (V.sl .no T_api_Expr l0)), (52, (V.int .i64 i1)), (53, (V.int .i64 i2))], ⟨[(0, (Blk.cells T_decl_writer [V.sl (Tok.row 0) T_string l3, V.bool true] false)), (1003, (Blk.cells T_decl_Break [V.int .i64 i4, V.str s5, V.int .i64 i6, V.sl .no T_api_Expr l7] false))], [0], [], [], none⟩)
noncomputable def L1_1_1_1_1_1_0_1_0v1 (l0 : List (List V)) (i1 i2 : Int) (l3 : List (List V)) (b4 : Bool) (i5 : Int) (s6 : ByteArray) (i7 : Int) (l8 : List (List V)) : Option Res := LP (e [1, 1, 1, 1, 1, 1, 0, 1, 0, 0]) (cn [0, 1003]) (kBlk 0 (kSeq (e [1, 1, 1, 1, 1, 1, 1]) (K))) ([(0, (V.ref 0 0)), (51, (V.sl .no T_api_Expr l0)), (52, (V.int .i64 i1)), (53, (V.int .i64 i2))], ⟨[(0, (Blk.cells T_decl_writer [V.sl (Tok.row 0) T_string l3, V.bool b4] false)), (1003, (Blk.cells T_decl_Break [V.int .i64 i5, V.str s6, V.int .i64 i7, V.sl .no T_api_Expr l8] false))], [0], [], [], none⟩)
theorem L1_1_1_1_1_1_0_1_0_eq (l0 : List (List V)) (i1 i2 : Int) (l3 : List (List V)) (i4 : Int) (s5 : ByteArray) (i6 : Int) (l7 : List (List V)) : L1_1_1_1_1_1_0_1_0 l0 i1 i2 l3 i4 s5 i6 l7 =
  (bif (decide (i2 < i1)) then (if (((0 : Int) <= i2) ∧ (i2 < (l0.length : Int))) then (V.asInt (List.getD (List.getD l0 (Int.toNat i2) []) 0 V.undef) .i64 (fun n44 => V.asStr (List.getD (List.getD l0 (Int.toNat i2) []) 1 V.undef) (fun s45 => V.asInt (List.getD (List.getD l0 (Int.toNat i2) []) 2 V.undef) .i64 (fun n46 => V.asSl (List.getD (List.getD l0 (Int.toNat i2) []) 3 V.undef) T_api_Expr (fun es47 => (den Sp syntax_PrintExpr.id [V.agg [V.int .i64 n44, V.str s45, V.int .i64 n46, V.sl .no T_api_Expr es47]] [] none).bind (fun r49 => Res.onRet r49 (fun v50 => V.asTup v50 2 (fun rd51 => V.asStr (rd51 0) (fun s52 => V.asInt (rd51 1) .i64 (fun n53 => if (((List.length l3) + (List.length [[V.str (ByteArray.mk #[119, 104, 101, 110])], [V.str s52]])) <= most) then (L1_1_1_1_1_1_0_1_0 l0 i1 (IntKind.wrap .i64 (i2 + (1 : Int))) (l3 ++ [[V.str (ByteArray.mk #[119, 104, 101, 110])], [V.str s52]]) i4 s5 i6 l7) else none)))))))))) else none) else (den Sp decl_writer_end.id [V.ref 0 0] [Blk.cells T_decl_writer [V.sl (Tok.row 0) T_string l3, V.bool true] false] none).bind (fun r44 => Blk.asCells (List.getD (Res.bl r44) 0 (Blk.cells T_n0 [] true)) T_decl_writer 2 (fun rd45 => V.asSlR (rd45 0) 0 T_string (fun es46 => V.asBool (rd45 1) (fun b47 => Res.onRet r44 (fun v48 => V.asTup v48 0 (fun rd49 => some ⟨Out.ret (V.tup []), [Blk.cells T_decl_writer [V.sl (Tok.row 0) T_string es46, V.bool b47] false], none⟩))))))) := (LP_eq ..).trans (by kernel_rfl)
theorem L1_1_1_1_1_1_0_1_0v1_eq (l0 : List (List V)) (i1 i2 : Int) (l3 : List (List V)) (b4 : Bool) (i5 : Int) (s6 : ByteArray) (i7 : Int) (l8 : List (List V)) : L1_1_1_1_1_1_0_1_0v1 l0 i1 i2 l3 b4 i5 s6 i7 l8 =
  (bif (decide (i2 < i1)) then (if (((0 : Int) <= i2) ∧ (i2 < (l0.length : Int))) then (V.asInt (List.getD (List.getD l0 (Int.toNat i2) []) 0 V.undef) .i64 (fun n45 => V.asStr (List.getD (List.getD l0 (Int.toNat i2) []) 1 V.undef) (fun s46 => V.asInt (List.getD (List.getD l0 (Int.toNat i2) []) 2 V.undef) .i64 (fun n47 => V.asSl (List.getD (List.getD l0 (Int.toNat i2) []) 3 V.undef) T_api_Expr (fun es48 => (den Sp syntax_PrintExpr.id [V.agg [V.int .i64 n45, V.str s46, V.int .i64 n47, V.sl .no T_api_Expr es48]] [] none).bind (fun r50 => Res.onRet r50 (fun v51 => V.asTup v51 2 (fun rd52 => V.asStr (rd52 0) (fun s53 => V.asInt (rd52 1) .i64 (fun n54 => bif b4 then (if (((List.length l3) + (List.length [[V.str (ByteArray.mk #[119, 104, 101, 110])], [V.str s53]])) <= most) then (L1_1_1_1_1_1_0_1_0 l0 i1 (IntKind.wrap .i64 (i2 + (1 : Int))) (l3 ++ [[V.str (ByteArray.mk #[119, 104, 101, 110])], [V.str s53]]) i5 s6 i7 l8) else none) else (if (((List.length l3) + (List.length [[V.str (ByteArray.mk #[119, 104, 101, 110])], [V.str s53]])) <= most) then (L1_1_1_1_1_1_0_1_0v1 l0 i1 (IntKind.wrap .i64 (i2 + (1 : Int))) (l3 ++ [[V.str (ByteArray.mk #[119, 104, 101, 110])], [V.str s53]]) (n54 != (0 : Int)) i5 s6 i7 l8) else none))))))))))) else none) else (den Sp decl_writer_end.id [V.ref 0 0] [Blk.cells T_decl_writer [V.sl (Tok.row 0) T_string l3, V.bool b4] false] none).bind (fun r45 => Blk.asCells (List.getD (Res.bl r45) 0 (Blk.cells T_n0 [] true)) T_decl_writer 2 (fun rd46 => V.asSlR (rd46 0) 0 T_string (fun es47 => V.asBool (rd46 1) (fun b48 => Res.onRet r45 (fun v49 => V.asTup v49 0 (fun rd50 => some ⟨Out.ret (V.tup []), [Blk.cells T_decl_writer [V.sl (Tok.row 0) T_string es47, V.bool b48] false], none⟩))))))) := (LP_eq ..).trans (by kernel_rfl)
theorem eq (m0_0 : List (List V)) (m0_1 : Bool) (a1_0 : Int) (a1_1 : ByteArray) (a1_2 : Int) (a1_3 : List (List V)) : den Sp id [V.ref 0 0, V.agg [V.int .i64 a1_0, V.str a1_1, V.int .i64 a1_2, V.sl .no T_api_Expr a1_3]] [Blk.cells T_decl_writer [V.sl (Tok.row 0) T_string m0_0, V.bool m0_1] false] none =
  (den Sp decl_writer_names.id [V.ref 0 0, V.sl .no T_string [[V.str (ByteArray.mk #[98, 114, 101, 97, 107])]]] [Blk.cells T_decl_writer [V.sl (Tok.row 0) T_string m0_0, V.bool m0_1] false] none).bind (fun r8 => Blk.asCells (List.getD (Res.bl r8) 0 (Blk.cells T_n0 [] true)) T_decl_writer 2 (fun rd9 => V.asSlR (rd9 0) 0 T_string (fun es10 => V.asBool (rd9 1) (fun b11 => Res.onRet r8 (fun v12 => V.asTup v12 0 (fun rd13 => (den Sp decl_writer_side.id [V.ref 0 0, V.int .i64 a1_0] [Blk.cells T_decl_writer [V.sl (Tok.row 0) T_string es10, V.bool b11] false] none).bind (fun r15 => Blk.asCells (List.getD (Res.bl r15) 0 (Blk.cells T_n0 [] true)) T_decl_writer 2 (fun rd16 => V.asSlR (rd16 0) 0 T_string (fun es17 => V.asBool (rd16 1) (fun b18 => Res.onRet r15 (fun v19 => V.asTup v19 0 (fun rd20 => (den Sp decl_writer_names.id [V.ref 0 0, V.sl .no T_string [[V.str a1_1]]] [Blk.cells T_decl_writer [V.sl (Tok.row 0) T_string es17, V.bool b18] false] none).bind (fun r22 => Blk.asCells (List.getD (Res.bl r22) 0 (Blk.cells T_n0 [] true)) T_decl_writer 2 (fun rd23 => V.asSlR (rd23 0) 0 T_string (fun es24 => V.asBool (rd23 1) (fun b25 => Res.onRet r22 (fun v26 => V.asTup v26 0 (fun rd27 => bif b25 then (den Sp num_Text.id [V.int .i64 a1_2] [] none).bind (fun r30 => Res.onRet r30 (fun v31 => V.asStr v31 (fun s32 => if (((List.length es24) + (List.length [[V.str s32]])) <= most) then (L1_1_1_1_1_1_0_1_0 a1_3 (a1_3.length : Int) (0 : Int) (es24 ++ [[V.str s32]]) a1_0 a1_1 a1_2 a1_3) else none))) else (bif (decide (a1_2 < (0 : Int))) then (den Sp num_Text.id [V.int .i64 a1_2] [] none).bind (fun r30 => Res.onRet r30 (fun v31 => V.asStr v31 (fun s32 => if (((List.length es24) + (List.length [[V.str s32]])) <= most) then (L1_1_1_1_1_1_0_1_0 a1_3 (a1_3.length : Int) (0 : Int) (es24 ++ [[V.str s32]]) a1_0 a1_1 a1_2 a1_3) else none))) else (den Sp num_Text.id [V.int .i64 a1_2] [] none).bind (fun r30 => Res.onRet r30 (fun v31 => V.asStr v31 (fun s32 => if (((List.length es24) + (List.length [[V.str s32]])) <= most) then (L1_1_1_1_1_1_0_1_0v1 a1_3 (a1_3.length : Int) (0 : Int) (es24 ++ [[V.str s32]]) (decide ((a1_3.length : Int) > (1 : Int))) a1_0 a1_1 a1_2 a1_3) else none)))))))))))))))))))))) := (den_eq ..).trans (by kernel_rfl)
end decl_writer_stop
namespace decl_Print
noncomputable abbrev e (p : List Nat) := ev Sp (den Sp) id Tryd.f8.ntmps (cAt (bodyOf Tryd.f8) p)
noncomputable abbrev cn (n0 : List Nat) := canon Sp id n0
noncomputable abbrev K : K := kFin Sp (den Sp) Tryd.f8 0
noncomputable def L1_1_0_1_0 (l0 : List (List V)) (i1 i2 : Int) (l3 l4 l5 l6 l7 l8 : List (List V)) (b9 : Bool) : Option Res := LP (e [1, 1, 0, 1, 0, 0]) (cn [1001, 1016]) (kBlk 0 (kSeq (e [1, 1, 1]) (K))) ([(1, (V.ref 1001 0)), (4, (V.ref 1016 0)), (18, (V.sl .no T_api_Pair l0)), (19, (V.int .i64 i1)), (20, (V.int .i64 i2)), (61, V.undef), (62, V.undef), (63, V.undef), (102, V.undef), (103, V.undef), (104, V.undef), (142, V.undef), (143, V.undef), (144, V.undef), (167, V.undef), (168, V.undef), (169, V.undef)], ⟨[(1001, (Blk.cells T_decl_File [V.sl .no T_api_Pair l3, V.sl .no T_api_Pair l4, V.sl .no T_decl_Keep l5, V.sl .no T_decl_Break l6, V.sl .no T_decl_Watch l7] false)), (1016, (Blk.cells T_decl_writer [V.sl (Tok.row 0) T_string l8, V.bool b9] false))], [0], [], [], none⟩)
noncomputable def L1_1_1_0_1_0 (l0 : List (List V)) (i1 i2 : Int) (l3 : List (List V)) (i4 i5 : Int) (l6 l7 l8 l9 l10 l11 : List (List V)) (b12 : Bool) : Option Res := LP (e [1, 1, 1, 0, 1, 0, 0]) (cn [1001, 1016]) (kBlk 2 (kSeq (e [1, 1, 1, 1]) (K))) ([(1, (V.ref 1001 0)), (4, (V.ref 1016 0)), (18, (V.sl .no T_api_Pair l0)), (19, (V.int .i64 i1)), (20, (V.int .i64 i2)), (61, (V.sl .no T_api_Pair l3)), (62, (V.int .i64 i4)), (63, (V.int .i64 i5)), (102, V.undef), (103, V.undef), (104, V.undef), (142, V.undef), (143, V.undef), (144, V.undef), (167, V.undef), (168, V.undef), (169, V.undef)], ⟨[(1001, (Blk.cells T_decl_File [V.sl .no T_api_Pair l6, V.sl .no T_api_Pair l7, V.sl .no T_decl_Keep l8, V.sl .no T_decl_Break l9, V.sl .no T_decl_Watch l10] false)), (1016, (Blk.cells T_decl_writer [V.sl (Tok.row 0) T_string l11, V.bool b12] false))], [0], [], [], none⟩)
noncomputable def L1_1_1_1_0_1_0 (l0 : List (List V)) (i1 i2 : Int) (l3 : List (List V)) (i4 i5 : Int) (l6 : List (List V)) (i7 i8 : Int) (l9 l10 l11 l12 l13 l14 : List (List V)) (b15 : Bool) : Option Res := LP (e [1, 1, 1, 1, 0, 1, 0, 0]) (cn [1001, 1016]) (kBlk 4 (kSeq (e [1, 1, 1, 1, 1]) (K))) ([(1, (V.ref 1001 0)), (4, (V.ref 1016 0)), (18, (V.sl .no T_api_Pair l0)), (19, (V.int .i64 i1)), (20, (V.int .i64 i2)), (61, (V.sl .no T_api_Pair l3)), (62, (V.int .i64 i4)), (63, (V.int .i64 i5)), (102, (V.sl .no T_decl_Keep l6)), (103, (V.int .i64 i7)), (104, (V.int .i64 i8)), (142, V.undef), (143, V.undef), (144, V.undef), (167, V.undef), (168, V.undef), (169, V.undef)], ⟨[(1001, (Blk.cells T_decl_File [V.sl .no T_api_Pair l9, V.sl .no T_api_Pair l10, V.sl .no T_decl_Keep l11, V.sl .no T_decl_Break l12, V.sl .no T_decl_Watch l13] false)), (1016, (Blk.cells T_decl_writer [V.sl (Tok.row 0) T_string l14, V.bool b15] false))], [0], [], [], none⟩)
noncomputable def L1_1_1_1_1_0_1_0 (l0 : List (List V)) (i1 i2 : Int) (l3 : List (List V)) (i4 i5 : Int) (l6 : List (List V)) (i7 i8 : Int) (l9 : List (List V)) (i10 i11 : Int) (l12 l13 l14 l15 l16 l17 : List (List V)) (b18 : Bool) : Option Res := LP (e [1, 1, 1, 1, 1, 0, 1, 0, 0]) (cn [1001, 1016]) (kBlk 6 (kSeq (e [1, 1, 1, 1, 1, 1]) (K))) ([(1, (V.ref 1001 0)), (4, (V.ref 1016 0)), (18, (V.sl .no T_api_Pair l0)), (19, (V.int .i64 i1)), (20, (V.int .i64 i2)), (61, (V.sl .no T_api_Pair l3)), (62, (V.int .i64 i4)), (63, (V.int .i64 i5)), (102, (V.sl .no T_decl_Keep l6)), (103, (V.int .i64 i7)), (104, (V.int .i64 i8)), (142, (V.sl .no T_decl_Break l9)), (143, (V.int .i64 i10)), (144, (V.int .i64 i11)), (167, V.undef), (168, V.undef), (169, V.undef)], ⟨[(1001, (Blk.cells T_decl_File [V.sl .no T_api_Pair l12, V.sl .no T_api_Pair l13, V.sl .no T_decl_Keep l14, V.sl .no T_decl_Break l15, V.sl .no T_decl_Watch l16] false)), (1016, (Blk.cells T_decl_writer [V.sl (Tok.row 0) T_string l17, V.bool b18] false))], [0], [], [], none⟩)
noncomputable def L1_1_1_1_1_1_0_1_0 (l0 : List (List V)) (i1 i2 : Int) (l3 : List (List V)) (i4 i5 : Int) (l6 : List (List V)) (i7 i8 : Int) (l9 : List (List V)) (i10 i11 : Int) (l12 : List (List V)) (i13 i14 : Int) (l15 l16 l17 l18 l19 l20 : List (List V)) (b21 : Bool) : Option Res := LP (e [1, 1, 1, 1, 1, 1, 0, 1, 0, 0]) (cn [1001, 1016]) (kBlk 8 (kSeq (e [1, 1, 1, 1, 1, 1, 1]) (K))) ([(1, (V.ref 1001 0)), (4, (V.ref 1016 0)), (18, (V.sl .no T_api_Pair l0)), (19, (V.int .i64 i1)), (20, (V.int .i64 i2)), (61, (V.sl .no T_api_Pair l3)), (62, (V.int .i64 i4)), (63, (V.int .i64 i5)), (102, (V.sl .no T_decl_Keep l6)), (103, (V.int .i64 i7)), (104, (V.int .i64 i8)), (142, (V.sl .no T_decl_Break l9)), (143, (V.int .i64 i10)), (144, (V.int .i64 i11)), (167, (V.sl .no T_decl_Watch l12)), (168, (V.int .i64 i13)), (169, (V.int .i64 i14))], ⟨[(1001, (Blk.cells T_decl_File [V.sl .no T_api_Pair l15, V.sl .no T_api_Pair l16, V.sl .no T_decl_Keep l17, V.sl .no T_decl_Break l18, V.sl .no T_decl_Watch l19] false)), (1016, (Blk.cells T_decl_writer [V.sl (Tok.row 0) T_string l20, V.bool b21] false))], [0], [], [], none⟩)
theorem L1_1_0_1_0_eq (l0 : List (List V)) (i1 i2 : Int) (l3 l4 l5 l6 l7 l8 : List (List V)) (b9 : Bool) : L1_1_0_1_0 l0 i1 i2 l3 l4 l5 l6 l7 l8 b9 =
  (bif (decide (i2 < i1)) then (if (((0 : Int) <= i2) ∧ (i2 < (l0.length : Int))) then (V.asStr (List.getD (List.getD l0 (Int.toNat i2) []) 0 V.undef) (fun s20 => V.asStr (List.getD (List.getD l0 (Int.toNat i2) []) 1 V.undef) (fun s21 => V.asStr (List.getD (List.getD l0 (Int.toNat i2) []) 2 V.undef) (fun s22 => V.asStr (List.getD (List.getD l0 (Int.toNat i2) []) 3 V.undef) (fun s23 => bif b9 then (den Sp decl_writer_names.id [V.ref 0 0, V.sl .no T_string [[V.str (ByteArray.mk #[112, 97, 105, 114])], [V.str s20], [V.str s21]]] [Blk.cells T_decl_writer [V.sl (Tok.row 0) T_string l8, V.bool true] false] none).bind (fun r26 => Blk.asCells (List.getD (Res.bl r26) 0 (Blk.cells T_n0 [] true)) T_decl_writer 2 (fun rd27 => V.asSlR (rd27 0) 0 T_string (fun es28 => V.asBool (rd27 1) (fun b29 => Res.onRet r26 (fun v30 => V.asTup v30 0 (fun rd31 => (den Sp decl_writer_end.id [V.ref 0 0] [Blk.cells T_decl_writer [V.sl (Tok.row 0) T_string es28, V.bool b29] false] none).bind (fun r33 => Blk.asCells (List.getD (Res.bl r33) 0 (Blk.cells T_n0 [] true)) T_decl_writer 2 (fun rd34 => V.asSlR (rd34 0) 0 T_string (fun es35 => V.asBool (rd34 1) (fun b36 => Res.onRet r33 (fun v37 => V.asTup v37 0 (fun rd38 => L1_1_0_1_0 l0 i1 (IntKind.wrap .i64 (i2 + (1 : Int))) l3 l4 l5 l6 l7 es35 b36)))))))))))) else (bif (!(decide (s22 = (ByteArray.mk #[])))) then (den Sp decl_writer_names.id [V.ref 0 0, V.sl .no T_string [[V.str (ByteArray.mk #[112, 97, 105, 114])], [V.str s20], [V.str s21]]] [Blk.cells T_decl_writer [V.sl (Tok.row 0) T_string l8, V.bool true] false] none).bind (fun r26 => Blk.asCells (List.getD (Res.bl r26) 0 (Blk.cells T_n0 [] true)) T_decl_writer 2 (fun rd27 => V.asSlR (rd27 0) 0 T_string (fun es28 => V.asBool (rd27 1) (fun b29 => Res.onRet r26 (fun v30 => V.asTup v30 0 (fun rd31 => (den Sp decl_writer_end.id [V.ref 0 0] [Blk.cells T_decl_writer [V.sl (Tok.row 0) T_string es28, V.bool b29] false] none).bind (fun r33 => Blk.asCells (List.getD (Res.bl r33) 0 (Blk.cells T_n0 [] true)) T_decl_writer 2 (fun rd34 => V.asSlR (rd34 0) 0 T_string (fun es35 => V.asBool (rd34 1) (fun b36 => Res.onRet r33 (fun v37 => V.asTup v37 0 (fun rd38 => L1_1_0_1_0 l0 i1 (IntKind.wrap .i64 (i2 + (1 : Int))) l3 l4 l5 l6 l7 es35 b36)))))))))))) else (bif (!(decide (s23 = (ByteArray.mk #[])))) then (den Sp decl_writer_names.id [V.ref 0 0, V.sl .no T_string [[V.str (ByteArray.mk #[112, 97, 105, 114])], [V.str s20], [V.str s21]]] [Blk.cells T_decl_writer [V.sl (Tok.row 0) T_string l8, V.bool true] false] none).bind (fun r26 => Blk.asCells (List.getD (Res.bl r26) 0 (Blk.cells T_n0 [] true)) T_decl_writer 2 (fun rd27 => V.asSlR (rd27 0) 0 T_string (fun es28 => V.asBool (rd27 1) (fun b29 => Res.onRet r26 (fun v30 => V.asTup v30 0 (fun rd31 => (den Sp decl_writer_end.id [V.ref 0 0] [Blk.cells T_decl_writer [V.sl (Tok.row 0) T_string es28, V.bool b29] false] none).bind (fun r33 => Blk.asCells (List.getD (Res.bl r33) 0 (Blk.cells T_n0 [] true)) T_decl_writer 2 (fun rd34 => V.asSlR (rd34 0) 0 T_string (fun es35 => V.asBool (rd34 1) (fun b36 => Res.onRet r33 (fun v37 => V.asTup v37 0 (fun rd38 => L1_1_0_1_0 l0 i1 (IntKind.wrap .i64 (i2 + (1 : Int))) l3 l4 l5 l6 l7 es35 b36)))))))))))) else (den Sp decl_isName.id [V.sl .no T_string [[V.str s20], [V.str s21]]] [] none).bind (fun r25 => Res.onRet r25 (fun v26 => V.asBool v26 (fun b27 => (den Sp decl_writer_names.id [V.ref 0 0, V.sl .no T_string [[V.str (ByteArray.mk #[112, 97, 105, 114])], [V.str s20], [V.str s21]]] [Blk.cells T_decl_writer [V.sl (Tok.row 0) T_string l8, V.bool (!b27)] false] none).bind (fun r29 => Blk.asCells (List.getD (Res.bl r29) 0 (Blk.cells T_n0 [] true)) T_decl_writer 2 (fun rd30 => V.asSlR (rd30 0) 0 T_string (fun es31 => V.asBool (rd30 1) (fun b32 => Res.onRet r29 (fun v33 => V.asTup v33 0 (fun rd34 => (den Sp decl_writer_end.id [V.ref 0 0] [Blk.cells T_decl_writer [V.sl (Tok.row 0) T_string es31, V.bool b32] false] none).bind (fun r36 => Blk.asCells (List.getD (Res.bl r36) 0 (Blk.cells T_n0 [] true)) T_decl_writer 2 (fun rd37 => V.asSlR (rd37 0) 0 T_string (fun es38 => V.asBool (rd37 1) (fun b39 => Res.onRet r36 (fun v40 => V.asTup v40 0 (fun rd41 => L1_1_0_1_0 l0 i1 (IntKind.wrap .i64 (i2 + (1 : Int))) l3 l4 l5 l6 l7 es38 b39)))))))))))))))))))))) else none) else (L1_1_1_0_1_0 l0 i1 i2 l4 (l4.length : Int) (0 : Int) l3 l4 l5 l6 l7 l8 b9)) := (LP_eq ..).trans (by kernel_rfl)
theorem L1_1_1_0_1_0_eq (l0 : List (List V)) (i1 i2 : Int) (l3 : List (List V)) (i4 i5 : Int) (l6 l7 l8 l9 l10 l11 : List (List V)) (b12 : Bool) : L1_1_1_0_1_0 l0 i1 i2 l3 i4 i5 l6 l7 l8 l9 l10 l11 b12 =
  (bif (decide (i5 < i4)) then (if (((0 : Int) <= i5) ∧ (i5 < (l3.length : Int))) then (V.asStr (List.getD (List.getD l3 (Int.toNat i5) []) 0 V.undef) (fun s35 => V.asStr (List.getD (List.getD l3 (Int.toNat i5) []) 1 V.undef) (fun s36 => V.asStr (List.getD (List.getD l3 (Int.toNat i5) []) 2 V.undef) (fun s37 => V.asStr (List.getD (List.getD l3 (Int.toNat i5) []) 3 V.undef) (fun s38 => bif b12 then (den Sp decl_writer_names.id [V.ref 0 0, V.sl .no T_string [[V.str (ByteArray.mk #[115, 97, 109, 101])], [V.str s35], [V.str (ByteArray.mk #[40])], [V.str s37], [V.str (ByteArray.mk #[41])], [V.str s36], [V.str (ByteArray.mk #[40])], [V.str s38], [V.str (ByteArray.mk #[41])]]] [Blk.cells T_decl_writer [V.sl (Tok.row 0) T_string l11, V.bool true] false] none).bind (fun r41 => Blk.asCells (List.getD (Res.bl r41) 0 (Blk.cells T_n0 [] true)) T_decl_writer 2 (fun rd42 => V.asSlR (rd42 0) 0 T_string (fun es43 => V.asBool (rd42 1) (fun b44 => Res.onRet r41 (fun v45 => V.asTup v45 0 (fun rd46 => (den Sp decl_writer_end.id [V.ref 0 0] [Blk.cells T_decl_writer [V.sl (Tok.row 0) T_string es43, V.bool b44] false] none).bind (fun r48 => Blk.asCells (List.getD (Res.bl r48) 0 (Blk.cells T_n0 [] true)) T_decl_writer 2 (fun rd49 => V.asSlR (rd49 0) 0 T_string (fun es50 => V.asBool (rd49 1) (fun b51 => Res.onRet r48 (fun v52 => V.asTup v52 0 (fun rd53 => L1_1_1_0_1_0 l0 i1 i2 l3 i4 (IntKind.wrap .i64 (i5 + (1 : Int))) l6 l7 l8 l9 l10 es50 b51)))))))))))) else (den Sp decl_isName.id [V.sl .no T_string [[V.str s35], [V.str s37], [V.str s36], [V.str s38]]] [] none).bind (fun r40 => Res.onRet r40 (fun v41 => V.asBool v41 (fun b42 => (den Sp decl_writer_names.id [V.ref 0 0, V.sl .no T_string [[V.str (ByteArray.mk #[115, 97, 109, 101])], [V.str s35], [V.str (ByteArray.mk #[40])], [V.str s37], [V.str (ByteArray.mk #[41])], [V.str s36], [V.str (ByteArray.mk #[40])], [V.str s38], [V.str (ByteArray.mk #[41])]]] [Blk.cells T_decl_writer [V.sl (Tok.row 0) T_string l11, V.bool (!b42)] false] none).bind (fun r44 => Blk.asCells (List.getD (Res.bl r44) 0 (Blk.cells T_n0 [] true)) T_decl_writer 2 (fun rd45 => V.asSlR (rd45 0) 0 T_string (fun es46 => V.asBool (rd45 1) (fun b47 => Res.onRet r44 (fun v48 => V.asTup v48 0 (fun rd49 => (den Sp decl_writer_end.id [V.ref 0 0] [Blk.cells T_decl_writer [V.sl (Tok.row 0) T_string es46, V.bool b47] false] none).bind (fun r51 => Blk.asCells (List.getD (Res.bl r51) 0 (Blk.cells T_n0 [] true)) T_decl_writer 2 (fun rd52 => V.asSlR (rd52 0) 0 T_string (fun es53 => V.asBool (rd52 1) (fun b54 => Res.onRet r51 (fun v55 => V.asTup v55 0 (fun rd56 => L1_1_1_0_1_0 l0 i1 i2 l3 i4 (IntKind.wrap .i64 (i5 + (1 : Int))) l6 l7 l8 l9 l10 es53 b54)))))))))))))))))))) else none) else (L1_1_1_1_0_1_0 l0 i1 i2 l3 i4 i5 l8 (l8.length : Int) (0 : Int) l6 l7 l8 l9 l10 l11 b12)) := (LP_eq ..).trans (by kernel_rfl)
theorem L1_1_1_1_0_1_0_eq (l0 : List (List V)) (i1 i2 : Int) (l3 : List (List V)) (i4 i5 : Int) (l6 : List (List V)) (i7 i8 : Int) (l9 l10 l11 l12 l13 l14 : List (List V)) (b15 : Bool) : L1_1_1_1_0_1_0 l0 i1 i2 l3 i4 i5 l6 i7 i8 l9 l10 l11 l12 l13 l14 b15 =
  (bif (decide (i8 < i7)) then (if (((0 : Int) <= i8) ∧ (i8 < (l6.length : Int))) then (V.asInt (List.getD (List.getD l6 (Int.toNat i8) []) 0 V.undef) .i64 (fun n53 => V.asStr (List.getD (List.getD l6 (Int.toNat i8) []) 1 V.undef) (fun s54 => V.asStr (List.getD (List.getD l6 (Int.toNat i8) []) 2 V.undef) (fun s55 => bif b15 then (den Sp decl_writer_names.id [V.ref 0 0, V.sl .no T_string [[V.str (ByteArray.mk #[107, 101, 101, 112])]]] [Blk.cells T_decl_writer [V.sl (Tok.row 0) T_string l14, V.bool true] false] none).bind (fun r58 => Blk.asCells (List.getD (Res.bl r58) 0 (Blk.cells T_n0 [] true)) T_decl_writer 2 (fun rd59 => V.asSlR (rd59 0) 0 T_string (fun es60 => V.asBool (rd59 1) (fun b61 => Res.onRet r58 (fun v62 => V.asTup v62 0 (fun rd63 => (den Sp decl_writer_side.id [V.ref 0 0, V.int .i64 n53] [Blk.cells T_decl_writer [V.sl (Tok.row 0) T_string es60, V.bool b61] false] none).bind (fun r65 => Blk.asCells (List.getD (Res.bl r65) 0 (Blk.cells T_n0 [] true)) T_decl_writer 2 (fun rd66 => V.asSlR (rd66 0) 0 T_string (fun es67 => V.asBool (rd66 1) (fun b68 => Res.onRet r65 (fun v69 => V.asTup v69 0 (fun rd70 => (den Sp decl_writer_names.id [V.ref 0 0, V.sl .no T_string [[V.str s54], [V.str s55]]] [Blk.cells T_decl_writer [V.sl (Tok.row 0) T_string es67, V.bool b68] false] none).bind (fun r72 => Blk.asCells (List.getD (Res.bl r72) 0 (Blk.cells T_n0 [] true)) T_decl_writer 2 (fun rd73 => V.asSlR (rd73 0) 0 T_string (fun es74 => V.asBool (rd73 1) (fun b75 => Res.onRet r72 (fun v76 => V.asTup v76 0 (fun rd77 => (den Sp decl_writer_end.id [V.ref 0 0] [Blk.cells T_decl_writer [V.sl (Tok.row 0) T_string es74, V.bool b75] false] none).bind (fun r79 => Blk.asCells (List.getD (Res.bl r79) 0 (Blk.cells T_n0 [] true)) T_decl_writer 2 (fun rd80 => V.asSlR (rd80 0) 0 T_string (fun es81 => V.asBool (rd80 1) (fun b82 => Res.onRet r79 (fun v83 => V.asTup v83 0 (fun rd84 => L1_1_1_1_0_1_0 l0 i1 i2 l3 i4 i5 l6 i7 (IntKind.wrap .i64 (i8 + (1 : Int))) l9 l10 l11 l12 l13 es81 b82)))))))))))))))))))))))) else (den Sp decl_isName.id [V.sl .no T_string [[V.str s54], [V.str s55]]] [] none).bind (fun r57 => Res.onRet r57 (fun v58 => V.asBool v58 (fun b59 => (den Sp decl_writer_names.id [V.ref 0 0, V.sl .no T_string [[V.str (ByteArray.mk #[107, 101, 101, 112])]]] [Blk.cells T_decl_writer [V.sl (Tok.row 0) T_string l14, V.bool (!b59)] false] none).bind (fun r61 => Blk.asCells (List.getD (Res.bl r61) 0 (Blk.cells T_n0 [] true)) T_decl_writer 2 (fun rd62 => V.asSlR (rd62 0) 0 T_string (fun es63 => V.asBool (rd62 1) (fun b64 => Res.onRet r61 (fun v65 => V.asTup v65 0 (fun rd66 => (den Sp decl_writer_side.id [V.ref 0 0, V.int .i64 n53] [Blk.cells T_decl_writer [V.sl (Tok.row 0) T_string es63, V.bool b64] false] none).bind (fun r68 => Blk.asCells (List.getD (Res.bl r68) 0 (Blk.cells T_n0 [] true)) T_decl_writer 2 (fun rd69 => V.asSlR (rd69 0) 0 T_string (fun es70 => V.asBool (rd69 1) (fun b71 => Res.onRet r68 (fun v72 => V.asTup v72 0 (fun rd73 => (den Sp decl_writer_names.id [V.ref 0 0, V.sl .no T_string [[V.str s54], [V.str s55]]] [Blk.cells T_decl_writer [V.sl (Tok.row 0) T_string es70, V.bool b71] false] none).bind (fun r75 => Blk.asCells (List.getD (Res.bl r75) 0 (Blk.cells T_n0 [] true)) T_decl_writer 2 (fun rd76 => V.asSlR (rd76 0) 0 T_string (fun es77 => V.asBool (rd76 1) (fun b78 => Res.onRet r75 (fun v79 => V.asTup v79 0 (fun rd80 => (den Sp decl_writer_end.id [V.ref 0 0] [Blk.cells T_decl_writer [V.sl (Tok.row 0) T_string es77, V.bool b78] false] none).bind (fun r82 => Blk.asCells (List.getD (Res.bl r82) 0 (Blk.cells T_n0 [] true)) T_decl_writer 2 (fun rd83 => V.asSlR (rd83 0) 0 T_string (fun es84 => V.asBool (rd83 1) (fun b85 => Res.onRet r82 (fun v86 => V.asTup v86 0 (fun rd87 => L1_1_1_1_0_1_0 l0 i1 i2 l3 i4 i5 l6 i7 (IntKind.wrap .i64 (i8 + (1 : Int))) l9 l10 l11 l12 l13 es84 b85))))))))))))))))))))))))))))))) else none) else (L1_1_1_1_1_0_1_0 l0 i1 i2 l3 i4 i5 l6 i7 i8 l12 (l12.length : Int) (0 : Int) l9 l10 l11 l12 l13 l14 b15)) := (LP_eq ..).trans (by kernel_rfl)
theorem L1_1_1_1_1_0_1_0_eq (l0 : List (List V)) (i1 i2 : Int) (l3 : List (List V)) (i4 i5 : Int) (l6 : List (List V)) (i7 i8 : Int) (l9 : List (List V)) (i10 i11 : Int) (l12 l13 l14 l15 l16 l17 : List (List V)) (b18 : Bool) : L1_1_1_1_1_0_1_0 l0 i1 i2 l3 i4 i5 l6 i7 i8 l9 i10 i11 l12 l13 l14 l15 l16 l17 b18 =
  (bif (decide (i11 < i10)) then (if (((0 : Int) <= i11) ∧ (i11 < (l9.length : Int))) then (V.asInt (List.getD (List.getD l9 (Int.toNat i11) []) 0 V.undef) .i64 (fun n74 => V.asStr (List.getD (List.getD l9 (Int.toNat i11) []) 1 V.undef) (fun s75 => V.asInt (List.getD (List.getD l9 (Int.toNat i11) []) 2 V.undef) .i64 (fun n76 => V.asSl (List.getD (List.getD l9 (Int.toNat i11) []) 3 V.undef) T_api_Expr (fun es77 => bif b18 then (den Sp decl_writer_stop.id [V.ref 0 0, V.agg [V.int .i64 n74, V.str s75, V.int .i64 n76, V.sl .no T_api_Expr es77]] [Blk.cells T_decl_writer [V.sl (Tok.row 0) T_string l17, V.bool true] false] none).bind (fun r80 => Blk.asCells (List.getD (Res.bl r80) 0 (Blk.cells T_n0 [] true)) T_decl_writer 2 (fun rd81 => V.asSlR (rd81 0) 0 T_string (fun es82 => V.asBool (rd81 1) (fun b83 => Res.onRet r80 (fun v84 => V.asTup v84 0 (fun rd85 => L1_1_1_1_1_0_1_0 l0 i1 i2 l3 i4 i5 l6 i7 i8 l9 i10 (IntKind.wrap .i64 (i11 + (1 : Int))) l12 l13 l14 l15 l16 es82 b83)))))) else (den Sp decl_isName.id [V.sl .no T_string [[V.str s75]]] [] none).bind (fun r79 => Res.onRet r79 (fun v80 => V.asBool v80 (fun b81 => (den Sp decl_writer_stop.id [V.ref 0 0, V.agg [V.int .i64 n74, V.str s75, V.int .i64 n76, V.sl .no T_api_Expr es77]] [Blk.cells T_decl_writer [V.sl (Tok.row 0) T_string l17, V.bool (!b81)] false] none).bind (fun r83 => Blk.asCells (List.getD (Res.bl r83) 0 (Blk.cells T_n0 [] true)) T_decl_writer 2 (fun rd84 => V.asSlR (rd84 0) 0 T_string (fun es85 => V.asBool (rd84 1) (fun b86 => Res.onRet r83 (fun v87 => V.asTup v87 0 (fun rd88 => L1_1_1_1_1_0_1_0 l0 i1 i2 l3 i4 i5 l6 i7 i8 l9 i10 (IntKind.wrap .i64 (i11 + (1 : Int))) l12 l13 l14 l15 l16 es85 b86)))))))))))))) else none) else (L1_1_1_1_1_1_0_1_0 l0 i1 i2 l3 i4 i5 l6 i7 i8 l9 i10 i11 l16 (l16.length : Int) (0 : Int) l12 l13 l14 l15 l16 l17 b18)) := (LP_eq ..).trans (by kernel_rfl)
theorem L1_1_1_1_1_1_0_1_0_eq (l0 : List (List V)) (i1 i2 : Int) (l3 : List (List V)) (i4 i5 : Int) (l6 : List (List V)) (i7 i8 : Int) (l9 : List (List V)) (i10 i11 : Int) (l12 : List (List V)) (i13 i14 : Int) (l15 l16 l17 l18 l19 l20 : List (List V)) (b21 : Bool) : L1_1_1_1_1_1_0_1_0 l0 i1 i2 l3 i4 i5 l6 i7 i8 l9 i10 i11 l12 i13 i14 l15 l16 l17 l18 l19 l20 b21 =
  (bif (decide (i14 < i13)) then (if (((0 : Int) <= i14) ∧ (i14 < (l12.length : Int))) then (V.asInt (List.getD (List.getD l12 (Int.toNat i14) []) 0 V.undef) .i64 (fun n98 => V.asStr (List.getD (List.getD l12 (Int.toNat i14) []) 1 V.undef) (fun s99 => V.asStr (List.getD (List.getD l12 (Int.toNat i14) []) 2 V.undef) (fun s100 => bif b21 then (den Sp decl_writer_names.id [V.ref 0 0, V.sl .no T_string [[V.str (ByteArray.mk #[119, 97, 116, 99, 104])]]] [Blk.cells T_decl_writer [V.sl (Tok.row 0) T_string l20, V.bool true] false] none).bind (fun r103 => Blk.asCells (List.getD (Res.bl r103) 0 (Blk.cells T_n0 [] true)) T_decl_writer 2 (fun rd104 => V.asSlR (rd104 0) 0 T_string (fun es105 => V.asBool (rd104 1) (fun b106 => Res.onRet r103 (fun v107 => V.asTup v107 0 (fun rd108 => (den Sp decl_writer_side.id [V.ref 0 0, V.int .i64 n98] [Blk.cells T_decl_writer [V.sl (Tok.row 0) T_string es105, V.bool b106] false] none).bind (fun r110 => Blk.asCells (List.getD (Res.bl r110) 0 (Blk.cells T_n0 [] true)) T_decl_writer 2 (fun rd111 => V.asSlR (rd111 0) 0 T_string (fun es112 => V.asBool (rd111 1) (fun b113 => Res.onRet r110 (fun v114 => V.asTup v114 0 (fun rd115 => (den Sp decl_writer_names.id [V.ref 0 0, V.sl .no T_string [[V.str s99], [V.str s100]]] [Blk.cells T_decl_writer [V.sl (Tok.row 0) T_string es112, V.bool b113] false] none).bind (fun r117 => Blk.asCells (List.getD (Res.bl r117) 0 (Blk.cells T_n0 [] true)) T_decl_writer 2 (fun rd118 => V.asSlR (rd118 0) 0 T_string (fun es119 => V.asBool (rd118 1) (fun b120 => Res.onRet r117 (fun v121 => V.asTup v121 0 (fun rd122 => (den Sp decl_writer_end.id [V.ref 0 0] [Blk.cells T_decl_writer [V.sl (Tok.row 0) T_string es119, V.bool b120] false] none).bind (fun r124 => Blk.asCells (List.getD (Res.bl r124) 0 (Blk.cells T_n0 [] true)) T_decl_writer 2 (fun rd125 => V.asSlR (rd125 0) 0 T_string (fun es126 => V.asBool (rd125 1) (fun b127 => Res.onRet r124 (fun v128 => V.asTup v128 0 (fun rd129 => L1_1_1_1_1_1_0_1_0 l0 i1 i2 l3 i4 i5 l6 i7 i8 l9 i10 i11 l12 i13 (IntKind.wrap .i64 (i14 + (1 : Int))) l15 l16 l17 l18 l19 es126 b127)))))))))))))))))))))))) else (den Sp decl_isName.id [V.sl .no T_string [[V.str s99], [V.str s100]]] [] none).bind (fun r102 => Res.onRet r102 (fun v103 => V.asBool v103 (fun b104 => (den Sp decl_writer_names.id [V.ref 0 0, V.sl .no T_string [[V.str (ByteArray.mk #[119, 97, 116, 99, 104])]]] [Blk.cells T_decl_writer [V.sl (Tok.row 0) T_string l20, V.bool (!b104)] false] none).bind (fun r106 => Blk.asCells (List.getD (Res.bl r106) 0 (Blk.cells T_n0 [] true)) T_decl_writer 2 (fun rd107 => V.asSlR (rd107 0) 0 T_string (fun es108 => V.asBool (rd107 1) (fun b109 => Res.onRet r106 (fun v110 => V.asTup v110 0 (fun rd111 => (den Sp decl_writer_side.id [V.ref 0 0, V.int .i64 n98] [Blk.cells T_decl_writer [V.sl (Tok.row 0) T_string es108, V.bool b109] false] none).bind (fun r113 => Blk.asCells (List.getD (Res.bl r113) 0 (Blk.cells T_n0 [] true)) T_decl_writer 2 (fun rd114 => V.asSlR (rd114 0) 0 T_string (fun es115 => V.asBool (rd114 1) (fun b116 => Res.onRet r113 (fun v117 => V.asTup v117 0 (fun rd118 => (den Sp decl_writer_names.id [V.ref 0 0, V.sl .no T_string [[V.str s99], [V.str s100]]] [Blk.cells T_decl_writer [V.sl (Tok.row 0) T_string es115, V.bool b116] false] none).bind (fun r120 => Blk.asCells (List.getD (Res.bl r120) 0 (Blk.cells T_n0 [] true)) T_decl_writer 2 (fun rd121 => V.asSlR (rd121 0) 0 T_string (fun es122 => V.asBool (rd121 1) (fun b123 => Res.onRet r120 (fun v124 => V.asTup v124 0 (fun rd125 => (den Sp decl_writer_end.id [V.ref 0 0] [Blk.cells T_decl_writer [V.sl (Tok.row 0) T_string es122, V.bool b123] false] none).bind (fun r127 => Blk.asCells (List.getD (Res.bl r127) 0 (Blk.cells T_n0 [] true)) T_decl_writer 2 (fun rd128 => V.asSlR (rd128 0) 0 T_string (fun es129 => V.asBool (rd128 1) (fun b130 => Res.onRet r127 (fun v131 => V.asTup v131 0 (fun rd132 => L1_1_1_1_1_1_0_1_0 l0 i1 i2 l3 i4 i5 l6 i7 i8 l9 i10 i11 l12 i13 (IntKind.wrap .i64 (i14 + (1 : Int))) l15 l16 l17 l18 l19 es129 b130))))))))))))))))))))))))))))))) else none) else (bif b21 then (some ⟨Out.ret (V.tup [V.str (ByteArray.mk #[]), V.int .i64 (32 : Int)]), [], none⟩) else (bif (decide ((if ((l17.length : Int) > (if ((l16.length : Int) > (l15.length : Int)) then (l16.length : Int) else (l15.length : Int))) then (l17.length : Int) else (if ((l16.length : Int) > (l15.length : Int)) then (l16.length : Int) else (l15.length : Int))) > (40 : Int))) then (some ⟨Out.ret (V.tup [V.str (ByteArray.mk #[]), V.int .i64 (2 : Int)]), [], none⟩) else (bif (decide ((if ((l19.length : Int) > (l18.length : Int)) then (l19.length : Int) else (l18.length : Int)) > (40 : Int))) then (some ⟨Out.ret (V.tup [V.str (ByteArray.mk #[]), V.int .i64 (2 : Int)]), [], none⟩) else (den Sp 21 [V.sl .no T_string l20, V.str (ByteArray.mk #[32])] [] none).bind (fun r100 => Res.onRet r100 (fun v101 => V.asStr v101 (fun s102 => some ⟨Out.ret (V.tup [V.str s102, V.int .i64 (0 : Int)]), [], none⟩))))))) := (LP_eq ..).trans (by kernel_rfl)
theorem eq (a0_0 a0_1 a0_2 a0_3 a0_4 : List (List V)) : den Sp id [V.agg [V.sl .no T_api_Pair a0_0, V.sl .no T_api_Pair a0_1, V.sl .no T_decl_Keep a0_2, V.sl .no T_decl_Break a0_3, V.sl .no T_decl_Watch a0_4]] [] none =
  (L1_1_0_1_0 a0_0 (a0_0.length : Int) (0 : Int) a0_0 a0_1 a0_2 a0_3 a0_4 [] false) := (den_eq ..).trans (by kernel_rfl)
end decl_Print
end Go.Proofs.YtmhnmelaodhemaaDoor
