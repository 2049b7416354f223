/- What the abstract machine is told of this seat's program: printed by a program of this session (wip/tool/gen.py). -/
import Derived.Test.YtipjanijidbelaaCoreA
import Derived.Test.YtipjanijidbelaaProg
namespace Go.Proofs.Ytipjanijidbelaa
open Go Go.Proofs.Ab
namespace law05_FoldEvals
abbrev id : FuncId := 3
end law05_FoldEvals
namespace law05_FoldWorth
abbrev id : FuncId := 4
end law05_FoldWorth
namespace law05_FoldTwice
abbrev id : FuncId := 5
end law05_FoldTwice
namespace law05_FoldSafe
abbrev id : FuncId := 6
end law05_FoldSafe
namespace law05_FoldRight
abbrev id : FuncId := 7
end law05_FoldRight
namespace law05_great
abbrev id : FuncId := 8
end law05_great
namespace law05_many
abbrev id : FuncId := 9
end law05_many
namespace law05_known
abbrev id : FuncId := 10
end law05_known
namespace fold_Eval
abbrev id : FuncId := 11
end fold_Eval
namespace law05_own
abbrev id : FuncId := 12
end law05_own
namespace ref05_Eval
abbrev id : FuncId := 13
end ref05_Eval
namespace fold_Expr
abbrev id : FuncId := 14
end fold_Expr
namespace ref03_SameExpr
abbrev id : FuncId := 15
end ref03_SameExpr
namespace fold_Traps
abbrev id : FuncId := 16
end fold_Traps
namespace ref03_Size
abbrev id : FuncId := 17
end ref03_Size
namespace ref04_Check
abbrev id : FuncId := 18
end ref04_Check
namespace fold_Prog
abbrev id : FuncId := 19
end fold_Prog
namespace ref04_Same
abbrev id : FuncId := 20
end ref04_Same
namespace ref03_ExprSize
abbrev id : FuncId := 21
end ref03_ExprSize
namespace law05_read
abbrev id : FuncId := 22
end law05_read
namespace fold_Const
abbrev id : FuncId := 23
end fold_Const
namespace fold_Lit
abbrev id : FuncId := 24
end fold_Lit
namespace fold_built
abbrev id : FuncId := 25
end fold_built
namespace fold_Env_value
abbrev id : FuncId := 26
end fold_Env_value
namespace fold_truth
abbrev id : FuncId := 27
end fold_truth
namespace num_Neg
abbrev id : FuncId := 28
end num_Neg
namespace fold_two
abbrev id : FuncId := 29
end fold_two
namespace ref05_Built
abbrev id : FuncId := 30
end ref05_Built
namespace ref05_list
abbrev id : FuncId := 31
end ref05_list
namespace ref05_place
abbrev id : FuncId := 32
end ref05_place
namespace ref01_Neg
abbrev id : FuncId := 33
end ref01_Neg
namespace ref05_truth
abbrev id : FuncId := 34
end ref05_truth
namespace ref05_Two
abbrev id : FuncId := 35
end ref05_Two
namespace fold_whole
abbrev id : FuncId := 36
end fold_whole
namespace fold_constant
abbrev id : FuncId := 37
end fold_constant
namespace fold_logic
abbrev id : FuncId := 38
end fold_logic
namespace fold_less
abbrev id : FuncId := 39
end fold_less
namespace ref03_SameExprs
abbrev id : FuncId := 40
end ref03_SameExprs
namespace ref03_StmtsSize
abbrev id : FuncId := 41
end ref03_StmtsSize
namespace ref04_proc
abbrev id : FuncId := 42
end ref04_proc
namespace ref04_Vars
abbrev id : FuncId := 43
end ref04_Vars
namespace ref04_total
abbrev id : FuncId := 44
end ref04_total
namespace fold_stmts
abbrev id : FuncId := 45
end fold_stmts
namespace ref03_Expr
abbrev id : FuncId := 46
end ref03_Expr
namespace fold_isInt
abbrev id : FuncId := 47
end fold_isInt
namespace fold_parts
abbrev id : FuncId := 48
end fold_parts
namespace fold_sign
abbrev id : FuncId := 49
end fold_sign
namespace num_Add
abbrev id : FuncId := 50
end num_Add
namespace num_Sub
abbrev id : FuncId := 51
end num_Sub
namespace num_Mul
abbrev id : FuncId := 52
end num_Mul
namespace num_Div
abbrev id : FuncId := 53
end num_Div
namespace num_Mod
abbrev id : FuncId := 54
end num_Mod
namespace ref03_Tight
abbrev id : FuncId := 55
end ref03_Tight
namespace ref01_Sub
abbrev id : FuncId := 56
end ref01_Sub
namespace ref01_Add
abbrev id : FuncId := 57
end ref01_Add
namespace ref01_Mul
abbrev id : FuncId := 58
end ref01_Mul
namespace ref01_Div
abbrev id : FuncId := 59
end ref01_Div
namespace ref01_Mod
abbrev id : FuncId := 60
end ref01_Mod
namespace fold_isBool
abbrev id : FuncId := 61
end fold_isBool
namespace ref04_Row
abbrev id : FuncId := 62
end ref04_Row
namespace ref04_stmt
abbrev id : FuncId := 63
end ref04_stmt
namespace ref04_Returns
abbrev id : FuncId := 64
end ref04_Returns
namespace fold_stmts_1
abbrev id : FuncId := 65
end fold_stmts_1
namespace ref02_Scan
abbrev id : FuncId := 66
end ref02_Scan
namespace ref03_In_expr
abbrev id : FuncId := 67
end ref03_In_expr
namespace ref03_In_kind
abbrev id : FuncId := 68
end ref03_In_kind
namespace ref03_In_fail
abbrev id : FuncId := 69
end ref03_In_fail
namespace ref01_number
abbrev id : FuncId := 70
end ref01_number
namespace ref01_plus
abbrev id : FuncId := 71
end ref01_plus
namespace ref01_Bits
abbrev id : FuncId := 72
end ref01_Bits
namespace ref01_other
abbrev id : FuncId := 73
end ref01_other
namespace ref01_parted
abbrev id : FuncId := 74
end ref01_parted
namespace ref01_size
abbrev id : FuncId := 75
end ref01_size
namespace ref04_kinds
abbrev id : FuncId := 76
end ref04_kinds
namespace ref04_holder
abbrev id : FuncId := 77
end ref04_holder
namespace ref04_is
abbrev id : FuncId := 78
end ref04_is
namespace ref04_Find
abbrev id : FuncId := 79
end ref04_Find
namespace ref04_first
abbrev id : FuncId := 80
end ref04_first
namespace ref04_TypeOf
abbrev id : FuncId := 81
end ref04_TypeOf
namespace ref04_call
abbrev id : FuncId := 82
end ref04_call
namespace ref02_Blank
abbrev id : FuncId := 83
end ref02_Blank
namespace ref02_First
abbrev id : FuncId := 84
end ref02_First
namespace ref03_In_part
abbrev id : FuncId := 85
end ref03_In_part
namespace ref03_In_opens
abbrev id : FuncId := 86
end ref03_In_opens
namespace ref03_In_tight
abbrev id : FuncId := 87
end ref03_In_tight
namespace ref04_typed
abbrev id : FuncId := 88
end ref04_typed
namespace ref04_one
abbrev id : FuncId := 89
end ref04_one
namespace ref02_run
abbrev id : FuncId := 90
end ref02_run
namespace ref02_digit
abbrev id : FuncId := 91
end ref02_digit
namespace ref01_Parse
abbrev id : FuncId := 92
end ref01_Parse
namespace ref02_in
abbrev id : FuncId := 93
end ref02_in
namespace ref02_Keys
abbrev id : FuncId := 94
end ref02_Keys
namespace ref02_IsName
abbrev id : FuncId := 95
end ref02_IsName
namespace ref02_Signs
abbrev id : FuncId := 96
end ref02_Signs
namespace ref03_In_is
abbrev id : FuncId := 97
end ref03_In_is
namespace ref03_In_one
abbrev id : FuncId := 98
end ref03_In_one
namespace ref02_inner
abbrev id : FuncId := 99
end ref02_inner
namespace ref02_between
abbrev id : FuncId := 100
end ref02_between
namespace ref01_Text
abbrev id : FuncId := 101
end ref01_Text
namespace ref02_letter
abbrev id : FuncId := 102
end ref02_letter
namespace ref03_In_got
abbrev id : FuncId := 103
end ref03_In_got
namespace ref03_In_want
abbrev id : FuncId := 104
end ref03_In_want
namespace ref03_In_word
abbrev id : FuncId := 105
end ref03_In_word
abbrev T_n0 : TypeId := 0
abbrev T_n1 : TypeId := 1
abbrev T_int64 : TypeId := 2
abbrev T_int : TypeId := 3
abbrev T_bool : TypeId := 4
abbrev T_uint8 : TypeId := 5
abbrev T_abi_BoundsErrorCode : TypeId := 6
abbrev T_n7 : TypeId := 7
abbrev T_runtime_boundsError : TypeId := 8
abbrev T_string : TypeId := 9
abbrev T_runtime_errorString : TypeId := 10
abbrev T_runtime_plainError : TypeId := 11
abbrev T_uintptr : TypeId := 12
abbrev T_n13 : TypeId := 13
abbrev T_runtime_errorAddressString : TypeId := 14
abbrev T_P_runtime_TypeAssertionError : TypeId := 15
abbrev T_P_runtime_PanicNilError : TypeId := 16
abbrev T_P_abi_Type : TypeId := 17
abbrev T_n18 : TypeId := 18
abbrev T_maps_unhashableTypeError : TypeId := 19
abbrev T_interface : TypeId := 20
abbrev T_int32 : TypeId := 21
abbrev T_L_api_Expr : TypeId := 22
abbrev T_n23 : TypeId := 23
abbrev T_api_Expr : TypeId := 24
abbrev T_L_string : TypeId := 25
abbrev T_L_int64 : TypeId := 26
abbrev T_L_L_int64 : TypeId := 27
abbrev T_n28 : TypeId := 28
abbrev T_parallaxref05_Env : TypeId := 29
abbrev T_n30 : TypeId := 30
abbrev T_n31 : TypeId := 31
abbrev T_n32 : TypeId := 32
abbrev T_n33 : TypeId := 33
abbrev T_n34 : TypeId := 34
abbrev T_fold_Env : TypeId := 35
abbrev T_n36 : TypeId := 36
abbrev T_n37 : TypeId := 37
abbrev T_n38 : TypeId := 38
abbrev T_n39 : TypeId := 39
abbrev T_n40 : TypeId := 40
abbrev T_L_api_Proc : TypeId := 41
abbrev T_n42 : TypeId := 42
abbrev T_api_Prog : TypeId := 43
abbrev T_n44 : TypeId := 44
abbrev T_L_L_api_Var : TypeId := 45
abbrev T_L_int : TypeId := 46
abbrev T_n47 : TypeId := 47
abbrev T_parallaxref04_Info : TypeId := 48
abbrev T_n49 : TypeId := 49
abbrev T_parallaxref04_Place : TypeId := 50
abbrev T_api_Errno : TypeId := 51
abbrev T_n52 : TypeId := 52
abbrev T_n53 : TypeId := 53
abbrev T_n54 : TypeId := 54
abbrev T_n55 : TypeId := 55
abbrev T_n56 : TypeId := 56
abbrev T_n57 : TypeId := 57
abbrev T_n58 : TypeId := 58
abbrev T_n59 : TypeId := 59
abbrev T_n60 : TypeId := 60
abbrev T_n61 : TypeId := 61
abbrev T_n62 : TypeId := 62
abbrev T_n63 : TypeId := 63
abbrev T_n64 : TypeId := 64
abbrev T_n65 : TypeId := 65
abbrev T_n66 : TypeId := 66
abbrev T_n67 : TypeId := 67
abbrev T_n68 : TypeId := 68
abbrev T_n69 : TypeId := 69
abbrev T_n70 : TypeId := 70
abbrev T_n71 : TypeId := 71
abbrev T_n72 : TypeId := 72
abbrev T_L_api_Param : TypeId := 73
abbrev T_L_api_Stmt : TypeId := 74
abbrev T_n75 : TypeId := 75
abbrev T_api_Proc : TypeId := 76
abbrev T_n77 : TypeId := 77
abbrev T_api_Param : TypeId := 78
abbrev T_n79 : TypeId := 79
abbrev T_n80 : TypeId := 80
abbrev T_n81 : TypeId := 81
abbrev T_L_api_Var : TypeId := 82
abbrev T_n83 : TypeId := 83
abbrev T_n84 : TypeId := 84
abbrev T_n85 : TypeId := 85
abbrev T_n86 : TypeId := 86
abbrev T_api_Var : TypeId := 87
abbrev T_n88 : TypeId := 88
abbrev T_n89 : TypeId := 89
abbrev T_n90 : TypeId := 90
abbrev T_n91 : TypeId := 91
abbrev T_n92 : TypeId := 92
abbrev T_n93 : TypeId := 93
abbrev T_n94 : TypeId := 94
abbrev T_n95 : TypeId := 95
abbrev T_n96 : TypeId := 96
abbrev T_api_Stmt : TypeId := 97
abbrev T_L_parallaxref04_Item : TypeId := 98
abbrev T_n99 : TypeId := 99
abbrev T_n100 : TypeId := 100
abbrev T_n101 : TypeId := 101
abbrev T_parallaxref04_Item : TypeId := 102
abbrev T_n103 : TypeId := 103
abbrev T_n104 : TypeId := 104
abbrev T_L_api_Token : TypeId := 105
abbrev T_n106 : TypeId := 106
abbrev T_n107 : TypeId := 107
abbrev T_P_parallaxref03_In : TypeId := 108
abbrev T_n109 : TypeId := 109
abbrev T_parallaxref03_In : TypeId := 110
abbrev T_n111 : TypeId := 111
abbrev T_n112 : TypeId := 112
abbrev T_n113 : TypeId := 113
abbrev T_L_L_string : TypeId := 114
abbrev T_n115 : TypeId := 115
abbrev T_n116 : TypeId := 116
abbrev T_n117 : TypeId := 117
abbrev T_n118 : TypeId := 118
abbrev T_uint64 : TypeId := 119
abbrev T_n120 : TypeId := 120
abbrev T_n121 : TypeId := 121
abbrev T_n122 : TypeId := 122
abbrev T_n123 : TypeId := 123
abbrev T_n124 : TypeId := 124
abbrev T_n125 : TypeId := 125
abbrev T_n126 : TypeId := 126
abbrev T_L_api_Errno : TypeId := 127
abbrev T_n128 : TypeId := 128
abbrev T_n129 : TypeId := 129
abbrev T_n130 : TypeId := 130
abbrev T_api_Token : TypeId := 131
abbrev T_n132 : TypeId := 132
abbrev T_n133 : TypeId := 133
abbrev T_n134 : TypeId := 134
abbrev T_n135 : TypeId := 135
abbrev T_uint : TypeId := 136
abbrev T_n137 : TypeId := 137
abbrev T_n138 : TypeId := 138
abbrev T_n139 : TypeId := 139
abbrev T_n140 : TypeId := 140
abbrev T_n141 : TypeId := 141
abbrev T_n142 : TypeId := 142
abbrev T_n143 : TypeId := 143
abbrev T_n144 : TypeId := 144
abbrev T_n145 : TypeId := 145
abbrev T_n146 : TypeId := 146
abbrev T_n147 : TypeId := 147
abbrev T_n148 : TypeId := 148
abbrev T_L_uint8 : TypeId := 149
abbrev T_n150 : TypeId := 150
abbrev T_runtime_TypeAssertionError : TypeId := 151
abbrev T_A0_P_runtime_PanicNilError : TypeId := 152
abbrev T_n153 : TypeId := 153
abbrev T_runtime_PanicNilError : TypeId := 154
abbrev T_n155 : TypeId := 155
abbrev T_uint32 : TypeId := 156
abbrev T_abi_TFlag : TypeId := 157
abbrev T_abi_Kind : TypeId := 158
abbrev T_n159 : TypeId := 159
abbrev T_P_uint8 : TypeId := 160
abbrev T_abi_NameOff : TypeId := 161
abbrev T_abi_TypeOff : TypeId := 162
abbrev T_n163 : TypeId := 163
abbrev T_abi_Type : TypeId := 164
abbrev T_unsafe_Pointer : TypeId := 165
def keepTab : List (List (Nat × Bool)) := [[], [], [], [], [], [], [], [], [], [(1, false), (3, false), (4, false), (5, false)], [], [], [], [], [(2, false), (3, false), (19, false), (20, false), (21, false)], [], [(44, false), (45, false), (46, false)], [(1, false), (2, false), (5, false), (6, false), (7, false)], [(1, false), (2, false), (3, false), (5, false), (6, false), (7, false), (8, false), (9, false), (10, false)], [(2, false), (3, false), (7, false), (8, false), (9, false)], [(2, false), (3, false), (5, false), (6, false)], [(1, false), (2, false), (5, false), (6, false)], [], [], [], [], [(1, false), (2, false), (11, false), (12, false), (13, false)], [], [], [], [], [], [(0, false), (1, false), (5, false)], [], [], [], [(1, false), (2, false), (9, false), (10, false), (11, false)], [(1, false), (2, false), (11, false), (12, false), (13, false)], [], [], [(0, false), (1, false), (5, false)], [(0, false), (1, false), (5, false), (6, false), (7, false)], [(2, false), (3, false), (6, false), (7, false), (8, false), (9, false), (10, false)], [(1, false), (3, false), (4, true), (5, false), (6, false)], [(0, false), (3, false), (4, false)], [(3, false), (4, true), (7, false), (8, false), (9, false)], [], [], [], [], [], [], [], [], [], [(0, false), (3, false), (4, false), (5, false)], [], [], [(5, false), (6, false), (7, false), (8, false)], [], [], [], [(0, false), (1, false), (5, true), (6, false), (7, false)], [(3, false), (4, false), (5, false), (6, false), (7, false), (11, false), (78, false)], [(0, false), (3, false)], [(3, true), (6, false), (7, false), (8, false)], [(0, false), (5, true), (6, false)], [], [], [], [(0, false), (3, false), (4, false)], [(0, false), (1, false), (2, false), (7, true), (8, false)], [(0, false), (3, true), (4, false)], [(0, false), (3, true), (4, false)], [(0, false), (1, false), (6, false), (7, false), (8, false)], [], [], [], [], [(0, false), (1, false), (2, false), (7, false)], [(0, false), (3, false)], [(1, false), (2, false), (3, false), (9, false), (10, false), (15, false)], [(2, false), (3, false), (4, false), (5, false), (9, false), (10, false), (11, false), (12, false)], [(0, false), (3, false), (4, false)], [(0, false), (2, false), (4, false), (8, false)], [], [], [(0, false), (1, false), (2, false), (6, false), (7, false), (8, false)], [], [], [(0, false), (3, false)], [], [(0, false), (4, false), (5, false)], [(0, false), (1, false), (5, false)], [], [(0, false), (3, false)], [], [], [], [], [], [(0, false), (3, false), (4, false)], [], [], [], []]
def glTab (g : Nat) : Option (List V) := match g with  | _ => none
noncomputable def Sp : Pg where
  P := Try.prog
  gl := glTab
  pz := fun e => ([2] : List Nat).contains e
  keep := fun f => keepTab.getD f []
  own := fun t => match t with  | _ => []
  joins := fun f => match f with | 63 => [3, 4, 5, 6, 20, 21, 33] | 81 => [3, 4, 5, 6, 15, 16, 24, 25, 26, 27, 35, 36] | _ => []
  nat := fun _ => none
  pan := fun f => match f with  | _ => none
  mutl := fun f => match f with  | _ => []
  dfs := false
end Go.Proofs.Ytipjanijidbelaa
