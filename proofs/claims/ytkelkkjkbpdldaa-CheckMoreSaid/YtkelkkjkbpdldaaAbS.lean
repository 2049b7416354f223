/- What the abstract machine is told of this seat's program: printed by a program of this session (wip/tool/gen.py). -/
import Derived.Test.YtkelkkjkbpdldaaCoreA
import Derived.Test.YtkelkkjkbpdldaaProg
namespace Go.Proofs.Ytkelkkjkbpdldaa
open Go Go.Proofs.Ab
namespace law04_CheckMore
abbrev id : FuncId := 3
end law04_CheckMore
namespace law04_CheckScopes
abbrev id : FuncId := 4
end law04_CheckScopes
namespace law04_CheckCounts
abbrev id : FuncId := 5
end law04_CheckCounts
namespace law04_CheckMarks
abbrev id : FuncId := 6
end law04_CheckMarks
namespace law04_great
abbrev id : FuncId := 7
end law04_great
namespace law04_known
abbrev id : FuncId := 8
end law04_known
namespace check_Check
abbrev id : FuncId := 9
end check_Check
namespace ref04_Same
abbrev id : FuncId := 10
end ref04_Same
namespace law04_info
abbrev id : FuncId := 11
end law04_info
namespace ref01_Among
abbrev id : FuncId := 12
end ref01_Among
namespace check_Find
abbrev id : FuncId := 13
end check_Find
namespace law04_name
abbrev id : FuncId := 14
end law04_name
namespace check_Stmt
abbrev id : FuncId := 15
end check_Stmt
namespace ref04_Stmt
abbrev id : FuncId := 16
end ref04_Stmt
namespace ref03_SameStmts
abbrev id : FuncId := 17
end ref03_SameStmts
namespace check_Count
abbrev id : FuncId := 18
end check_Count
namespace ref04_Count
abbrev id : FuncId := 19
end ref04_Count
namespace ref03_Size
abbrev id : FuncId := 20
end ref03_Size
namespace ref03_Parse
abbrev id : FuncId := 21
end ref03_Parse
namespace check_TypeOf
abbrev id : FuncId := 22
end check_TypeOf
namespace check_whole
abbrev id : FuncId := 23
end check_whole
namespace check_checker_check
abbrev id : FuncId := 24
end check_checker_check
namespace check_count
abbrev id : FuncId := 25
end check_count
namespace ref01_Text
abbrev id : FuncId := 26
end ref01_Text
namespace check_find
abbrev id : FuncId := 27
end check_find
namespace ref04_Row
abbrev id : FuncId := 28
end ref04_Row
namespace ref03_SameExprs
abbrev id : FuncId := 29
end ref03_SameExprs
namespace ref04_total
abbrev id : FuncId := 30
end ref04_total
namespace ref03_StmtsSize
abbrev id : FuncId := 31
end ref03_StmtsSize
namespace ref02_Scan
abbrev id : FuncId := 32
end ref02_Scan
namespace ref03_Read
abbrev id : FuncId := 33
end ref03_Read
namespace check_TypeOf_1
abbrev id : FuncId := 34
end check_TypeOf_1
namespace check_caught
abbrev id : FuncId := 35
end check_caught
namespace check_names_expr
abbrev id : FuncId := 36
end check_names_expr
namespace check_checker_check_1
abbrev id : FuncId := 37
end check_checker_check_1
namespace check_vars
abbrev id : FuncId := 38
end check_vars
namespace check_names_need
abbrev id : FuncId := 39
end check_names_need
namespace check_checker_stmts
abbrev id : FuncId := 40
end check_checker_stmts
namespace check_ends
abbrev id : FuncId := 41
end check_ends
namespace ref01_size
abbrev id : FuncId := 42
end ref01_size
namespace ref03_SameExpr
abbrev id : FuncId := 43
end ref03_SameExpr
namespace ref03_ExprSize
abbrev id : FuncId := 44
end ref03_ExprSize
namespace ref02_Blank
abbrev id : FuncId := 45
end ref02_Blank
namespace ref02_First
abbrev id : FuncId := 46
end ref02_First
namespace ref02_Right
abbrev id : FuncId := 47
end ref02_Right
namespace ref03_In_kind
abbrev id : FuncId := 48
end ref03_In_kind
namespace ref03_In_proc
abbrev id : FuncId := 49
end ref03_In_proc
namespace check_arity
abbrev id : FuncId := 50
end check_arity
namespace check_names_named
abbrev id : FuncId := 51
end check_names_named
namespace check_names_two
abbrev id : FuncId := 52
end check_names_two
namespace check_declared
abbrev id : FuncId := 53
end check_declared
namespace check_checker_stmt
abbrev id : FuncId := 54
end check_checker_stmt
namespace ref01_Neg
abbrev id : FuncId := 55
end ref01_Neg
namespace ref02_run
abbrev id : FuncId := 56
end ref02_run
namespace ref02_digit
abbrev id : FuncId := 57
end ref02_digit
namespace ref01_Parse
abbrev id : FuncId := 58
end ref01_Parse
namespace ref02_in
abbrev id : FuncId := 59
end ref02_in
namespace ref02_Keys
abbrev id : FuncId := 60
end ref02_Keys
namespace ref02_IsName
abbrev id : FuncId := 61
end ref02_IsName
namespace ref02_Signs
abbrev id : FuncId := 62
end ref02_Signs
namespace ref02_Text
abbrev id : FuncId := 63
end ref02_Text
namespace ref03_In_want
abbrev id : FuncId := 64
end ref03_In_want
namespace ref03_In_word
abbrev id : FuncId := 65
end ref03_In_word
namespace ref03_In_got
abbrev id : FuncId := 66
end ref03_In_got
namespace ref03_In_typ
abbrev id : FuncId := 67
end ref03_In_typ
namespace ref03_In_fail
abbrev id : FuncId := 68
end ref03_In_fail
namespace ref03_In_block
abbrev id : FuncId := 69
end ref03_In_block
namespace check_checker_has
abbrev id : FuncId := 70
end check_checker_has
namespace check_checker_typed
abbrev id : FuncId := 71
end check_checker_typed
namespace check_checker_call
abbrev id : FuncId := 72
end check_checker_call
namespace check_checker_returns
abbrev id : FuncId := 73
end check_checker_returns
namespace ref01_Sub
abbrev id : FuncId := 74
end ref01_Sub
namespace ref02_inner
abbrev id : FuncId := 75
end ref02_inner
namespace ref02_between
abbrev id : FuncId := 76
end ref02_between
namespace ref02_letter
abbrev id : FuncId := 77
end ref02_letter
namespace ref03_In_is
abbrev id : FuncId := 78
end ref03_In_is
namespace ref03_In_stmt
abbrev id : FuncId := 79
end ref03_In_stmt
namespace check_checker_called
abbrev id : FuncId := 80
end check_checker_called
namespace ref01_number
abbrev id : FuncId := 81
end ref01_number
namespace ref01_plus
abbrev id : FuncId := 82
end ref01_plus
namespace ref01_Bits
abbrev id : FuncId := 83
end ref01_Bits
namespace ref01_other
abbrev id : FuncId := 84
end ref01_other
namespace ref03_In_part
abbrev id : FuncId := 85
end ref03_In_part
namespace ref03_In_inBrackets
abbrev id : FuncId := 86
end ref03_In_inBrackets
namespace ref03_In_short
abbrev id : FuncId := 87
end ref03_In_short
namespace ref03_In_expr
abbrev id : FuncId := 88
end ref03_In_expr
namespace ref03_In_args
abbrev id : FuncId := 89
end ref03_In_args
namespace ref03_In_opens
abbrev id : FuncId := 90
end ref03_In_opens
namespace ref03_In_tight
abbrev id : FuncId := 91
end ref03_In_tight
namespace ref03_In_one
abbrev id : FuncId := 92
end ref03_In_one
namespace ref03_Tight
abbrev id : FuncId := 93
end ref03_Tight
abbrev T_n0 : TypeId := 0
abbrev T_n1 : TypeId := 1
abbrev T_int64 : TypeId := 2
abbrev T_int : TypeId := 3
abbrev T_bool : TypeId := 4
abbrev T_uint8 : TypeId := 5
abbrev T_abi_BoundsErrorCode : TypeId := 6
abbrev T_n7 : TypeId := 7
abbrev T_runtime_boundsError : TypeId := 8
abbrev T_string : TypeId := 9
abbrev T_runtime_errorString : TypeId := 10
abbrev T_runtime_plainError : TypeId := 11
abbrev T_uintptr : TypeId := 12
abbrev T_n13 : TypeId := 13
abbrev T_runtime_errorAddressString : TypeId := 14
abbrev T_P_runtime_TypeAssertionError : TypeId := 15
abbrev T_P_runtime_PanicNilError : TypeId := 16
abbrev T_P_abi_Type : TypeId := 17
abbrev T_n18 : TypeId := 18
abbrev T_maps_unhashableTypeError : TypeId := 19
abbrev T_interface : TypeId := 20
abbrev T_int32 : TypeId := 21
abbrev T_L_api_Proc : TypeId := 22
abbrev T_n23 : TypeId := 23
abbrev T_api_Prog : TypeId := 24
abbrev T_L_api_Param : TypeId := 25
abbrev T_L_api_Stmt : TypeId := 26
abbrev T_n27 : TypeId := 27
abbrev T_api_Proc : TypeId := 28
abbrev T_n29 : TypeId := 29
abbrev T_n30 : TypeId := 30
abbrev T_L_L_api_Var : TypeId := 31
abbrev T_L_int : TypeId := 32
abbrev T_n33 : TypeId := 33
abbrev T_check_Info : TypeId := 34
abbrev T_n35 : TypeId := 35
abbrev T_check_Place : TypeId := 36
abbrev T_api_Errno : TypeId := 37
abbrev T_n38 : TypeId := 38
abbrev T_n39 : TypeId := 39
abbrev T_n40 : TypeId := 40
abbrev T_parallaxref04_Info : TypeId := 41
abbrev T_n42 : TypeId := 42
abbrev T_n43 : TypeId := 43
abbrev T_n44 : TypeId := 44
abbrev T_L_api_Var : TypeId := 45
abbrev T_n46 : TypeId := 46
abbrev T_api_Var : TypeId := 47
abbrev T_n48 : TypeId := 48
abbrev T_n49 : TypeId := 49
abbrev T_n50 : TypeId := 50
abbrev T_n51 : TypeId := 51
abbrev T_api_Param : TypeId := 52
abbrev T_L_api_Expr : TypeId := 53
abbrev T_n54 : TypeId := 54
abbrev T_api_Stmt : TypeId := 55
abbrev T_n56 : TypeId := 56
abbrev T_n57 : TypeId := 57
abbrev T_n58 : TypeId := 58
abbrev T_n59 : TypeId := 59
abbrev T_n60 : TypeId := 60
abbrev T_n61 : TypeId := 61
abbrev T_n62 : TypeId := 62
abbrev T_n63 : TypeId := 63
abbrev T_n64 : TypeId := 64
abbrev T_n65 : TypeId := 65
abbrev T_n66 : TypeId := 66
abbrev T_n67 : TypeId := 67
abbrev T_api_Expr : TypeId := 68
abbrev T_n69 : TypeId := 69
abbrev T_P_check_checker : TypeId := 70
abbrev T_n71 : TypeId := 71
abbrev T_check_names : TypeId := 72
abbrev T_n73 : TypeId := 73
abbrev T_check_checker : TypeId := 74
abbrev T_n75 : TypeId := 75
abbrev T_n76 : TypeId := 76
abbrev T_n77 : TypeId := 77
abbrev T_n78 : TypeId := 78
abbrev T_L_parallaxref04_Item : TypeId := 79
abbrev T_n80 : TypeId := 80
abbrev T_n81 : TypeId := 81
abbrev T_parallaxref04_Item : TypeId := 82
abbrev T_n83 : TypeId := 83
abbrev T_n84 : TypeId := 84
abbrev T_L_api_Token : TypeId := 85
abbrev T_n86 : TypeId := 86
abbrev T_n87 : TypeId := 87
abbrev T_n88 : TypeId := 88
abbrev T_n89 : TypeId := 89
abbrev T_check_given : TypeId := 90
abbrev T_n91 : TypeId := 91
abbrev T_P_check_names : TypeId := 92
abbrev T_n93 : TypeId := 93
abbrev T_map_string_bool : TypeId := 94
abbrev T_n95 : TypeId := 95
abbrev T_n96 : TypeId := 96
abbrev T_n97 : TypeId := 97
abbrev T_n98 : TypeId := 98
abbrev T_uint64 : TypeId := 99
abbrev T_n100 : TypeId := 100
abbrev T_L_uint8 : TypeId := 101
abbrev T_n102 : TypeId := 102
abbrev T_n103 : TypeId := 103
abbrev T_n104 : TypeId := 104
abbrev T_n105 : TypeId := 105
abbrev T_api_Token : TypeId := 106
abbrev T_n107 : TypeId := 107
abbrev T_n108 : TypeId := 108
abbrev T_n109 : TypeId := 109
abbrev T_P_parallaxref03_In : TypeId := 110
abbrev T_n111 : TypeId := 111
abbrev T_parallaxref03_In : TypeId := 112
abbrev T_n113 : TypeId := 113
abbrev T_n114 : TypeId := 114
abbrev T_n115 : TypeId := 115
abbrev T_n116 : TypeId := 116
abbrev T_n117 : TypeId := 117
abbrev T_n118 : TypeId := 118
abbrev T_n119 : TypeId := 119
abbrev T_n120 : TypeId := 120
abbrev T_n121 : TypeId := 121
abbrev T_n122 : TypeId := 122
abbrev T_n123 : TypeId := 123
abbrev T_n124 : TypeId := 124
abbrev T_n125 : TypeId := 125
abbrev T_L_string : TypeId := 126
abbrev T_n127 : TypeId := 127
abbrev T_n128 : TypeId := 128
abbrev T_n129 : TypeId := 129
abbrev T_n130 : TypeId := 130
abbrev T_n131 : TypeId := 131
abbrev T_n132 : TypeId := 132
abbrev T_n133 : TypeId := 133
abbrev T_n134 : TypeId := 134
abbrev T_n135 : TypeId := 135
abbrev T_n136 : TypeId := 136
abbrev T_n137 : TypeId := 137
abbrev T_n138 : TypeId := 138
abbrev T_n139 : TypeId := 139
abbrev T_n140 : TypeId := 140
abbrev T_n141 : TypeId := 141
abbrev T_n142 : TypeId := 142
abbrev T_n143 : TypeId := 143
abbrev T_n144 : TypeId := 144
abbrev T_n145 : TypeId := 145
abbrev T_n146 : TypeId := 146
abbrev T_n147 : TypeId := 147
abbrev T_uint : TypeId := 148
abbrev T_n149 : TypeId := 149
abbrev T_n150 : TypeId := 150
abbrev T_L_L_string : TypeId := 151
abbrev T_n152 : TypeId := 152
abbrev T_runtime_TypeAssertionError : TypeId := 153
abbrev T_A0_P_runtime_PanicNilError : TypeId := 154
abbrev T_n155 : TypeId := 155
abbrev T_runtime_PanicNilError : TypeId := 156
abbrev T_uint32 : TypeId := 157
abbrev T_abi_TFlag : TypeId := 158
abbrev T_abi_Kind : TypeId := 159
abbrev T_n160 : TypeId := 160
abbrev T_P_uint8 : TypeId := 161
abbrev T_abi_NameOff : TypeId := 162
abbrev T_abi_TypeOff : TypeId := 163
abbrev T_n164 : TypeId := 164
abbrev T_abi_Type : TypeId := 165
abbrev T_unsafe_Pointer : TypeId := 166
def keepTab : List (List (Nat × Bool)) := [[], [], [], [(2, false), (3, false), (5, false), (8, false)], [(1, false), (2, false), (5, false), (8, false), (9, false), (10, false)], [(0, false), (5, false), (6, false), (7, false), (8, false), (9, false), (10, false)], [], [], [], [(1, false), (2, false), (3, false), (6, false), (20, false), (21, false), (22, false)], [(2, false), (3, false), (5, false), (6, false)], [], [], [(1, false), (2, false), (9, false), (10, false), (11, false)], [], [], [], [(0, false), (1, false), (5, false)], [], [], [(1, false), (2, false), (5, false), (6, false), (7, false)], [], [], [(1, false), (3, false), (14, false), (15, false), (16, false), (29, false), (30, false), (31, false)], [(0, false), (2, false), (3, false), (4, false), (42, false), (43, false), (44, false)], [(3, false), (6, false), (7, false), (8, false)], [(0, false), (3, false), (4, false)], [(1, false), (4, false), (10, false), (11, false), (12, false)], [(0, false), (1, false), (5, true), (6, false), (7, false)], [(0, false), (1, false), (5, false)], [(0, false), (3, false), (4, false)], [(0, false), (1, false), (5, false), (6, false), (7, false)], [(0, false), (5, true), (6, false)], [(2, false), (5, false), (6, false)], [], [], [], [], [(1, false), (3, true), (7, false), (8, false), (9, false)], [], [(0, false), (6, false), (7, false), (8, false)], [(5, false), (6, false), (7, false)], [], [], [(1, false), (2, false), (5, false), (6, false)], [(0, false), (3, false), (4, false)], [(0, false), (2, false), (4, false), (8, false)], [(0, false), (3, false), (4, false)], [], [(0, false), (2, false), (3, false), (4, false)], [], [], [], [(1, false), (5, true), (6, false), (15, false), (16, false), (17, false)], [(0, false), (3, false), (39, false)], [], [(0, false), (3, false)], [], [(0, false), (4, false), (5, false)], [(0, false), (1, false), (5, false)], [], [(0, false), (3, false)], [], [], [], [], [], [], [], [(0, false), (1, false), (5, true)], [], [], [(0, false), (3, false), (4, false), (24, false), (25, false), (26, false)], [], [], [], [], [], [], [(0, false), (1, false), (4, false), (5, false), (6, false), (7, false)], [(0, false), (1, false), (4, false), (11, false), (12, false), (13, false)], [(0, false), (3, false), (4, false)], [(0, false), (1, false), (2, false), (7, true), (8, false)], [(0, false), (3, true), (4, false)], [(0, false), (3, true), (4, false)], [], [], [], [], [(0, false), (1, false), (5, true)], [], [(0, false), (1, false), (2, false), (6, false), (7, false), (8, false)], [], [(0, false), (3, false), (4, false), (5, false)]]
def glTab (g : Nat) : Option (List V) := match g with  | _ => none
noncomputable def Sp : Pg where
  P := Try.prog
  gl := glTab
  pz := fun e => ([2] : List Nat).contains e
  keep := fun f => keepTab.getD f []
  own := fun t => match t with  | _ => []
  joins := fun f => match f with | 54 => [2, 3, 23, 25] | _ => []
  nat := fun _ => none
  pan := fun f => match f with | 36 => some 90 | 39 => some 90 | 40 => some 90 | 51 => some 90 | 52 => some 90 | 54 => some 90 | 70 => some 90 | 71 => some 90 | 72 => some 90 | 73 => some 90 | 80 => some 90 | _ => none
  mutl := fun f => match f with  | _ => []
  dfs := true
end Go.Proofs.Ytkelkkjkbpdldaa
