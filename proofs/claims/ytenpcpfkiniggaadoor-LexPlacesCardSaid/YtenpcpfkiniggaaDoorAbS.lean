/- What the abstract machine is told of this seat's program: printed by a program of this session (wip/tool/gen.py). -/
import Derived.Test.YtenpcpfkiniggaaDoorCoreA
import Derived.Test.YtenpcpfkiniggaaDoorProg
namespace Go.Proofs.YtenpcpfkiniggaaDoor
open Go Go.Proofs.Ab
namespace law02_LexPrints
abbrev id : FuncId := 3
end law02_LexPrints
namespace law02_LexNames
abbrev id : FuncId := 4
end law02_LexNames
namespace law02_LexBack
abbrev id : FuncId := 5
end law02_LexBack
namespace law02_LexPlaces
abbrev id : FuncId := 6
end law02_LexPlaces
namespace law02_LexBlanks
abbrev id : FuncId := 7
end law02_LexBlanks
namespace law02_LexFirst
abbrev id : FuncId := 8
end law02_LexFirst
namespace law02_LexMany
abbrev id : FuncId := 9
end law02_LexMany
namespace law02_many
abbrev id : FuncId := 10
end law02_many
namespace law02_known
abbrev id : FuncId := 11
end law02_known
namespace lex_Print
abbrev id : FuncId := 12
end lex_Print
namespace ref02_Print
abbrev id : FuncId := 13
end ref02_Print
namespace lex_Right
abbrev id : FuncId := 14
end lex_Right
namespace ref02_Right
abbrev id : FuncId := 15
end ref02_Right
namespace lex_IsName
abbrev id : FuncId := 16
end lex_IsName
namespace ref02_IsName
abbrev id : FuncId := 17
end ref02_IsName
namespace lex_Scan
abbrev id : FuncId := 18
end lex_Scan
namespace ref02_Same
abbrev id : FuncId := 19
end ref02_Same
namespace law02_long
abbrev id : FuncId := 20
end law02_long
namespace ref02_Text
abbrev id : FuncId := 21
end ref02_Text
namespace ref01_Among
abbrev id : FuncId := 22
end ref01_Among
namespace ref02_Size
abbrev id : FuncId := 23
end ref02_Size
namespace lex_written
abbrev id : FuncId := 24
end lex_written
namespace num_Join
abbrev id : FuncId := 25
end num_Join
namespace ref01_Join
abbrev id : FuncId := 26
end ref01_Join
namespace lex_letter
abbrev id : FuncId := 27
end lex_letter
namespace lex_isKey
abbrev id : FuncId := 28
end lex_isKey
namespace lex_inner
abbrev id : FuncId := 29
end lex_inner
namespace ref02_inner
abbrev id : FuncId := 30
end ref02_inner
namespace ref02_letter
abbrev id : FuncId := 31
end ref02_letter
namespace ref02_in
abbrev id : FuncId := 32
end ref02_in
namespace ref02_Keys
abbrev id : FuncId := 33
end ref02_Keys
namespace lex_reader_blank
abbrev id : FuncId := 34
end lex_reader_blank
namespace lex_reader_next
abbrev id : FuncId := 35
end lex_reader_next
namespace ref01_Text
abbrev id : FuncId := 36
end ref01_Text
namespace ref02_First
abbrev id : FuncId := 37
end ref02_First
namespace lex_sign
abbrev id : FuncId := 38
end lex_sign
namespace num_Text
abbrev id : FuncId := 39
end num_Text
namespace lex_digit
abbrev id : FuncId := 40
end lex_digit
namespace ref02_digit
abbrev id : FuncId := 41
end ref02_digit
namespace ref02_between
abbrev id : FuncId := 42
end ref02_between
namespace lex_reader_word
abbrev id : FuncId := 43
end lex_reader_word
namespace num_Parse
abbrev id : FuncId := 44
end num_Parse
namespace ref01_size
abbrev id : FuncId := 45
end ref01_size
namespace ref02_run
abbrev id : FuncId := 46
end ref02_run
namespace ref01_Parse
abbrev id : FuncId := 47
end ref01_Parse
namespace ref02_Signs
abbrev id : FuncId := 48
end ref02_Signs
namespace ref01_Neg
abbrev id : FuncId := 49
end ref01_Neg
namespace ref01_Sub
abbrev id : FuncId := 50
end ref01_Sub
namespace ref01_number
abbrev id : FuncId := 51
end ref01_number
namespace ref01_plus
abbrev id : FuncId := 52
end ref01_plus
namespace ref01_Bits
abbrev id : FuncId := 53
end ref01_Bits
namespace ref01_other
abbrev id : FuncId := 54
end ref01_other
abbrev T_n0 : TypeId := 0
abbrev T_n1 : TypeId := 1
abbrev T_int64 : TypeId := 2
abbrev T_int : TypeId := 3
abbrev T_bool : TypeId := 4
abbrev T_uint8 : TypeId := 5
abbrev T_abi_BoundsErrorCode : TypeId := 6
abbrev T_n7 : TypeId := 7
abbrev T_runtime_boundsError : TypeId := 8
abbrev T_string : TypeId := 9
abbrev T_runtime_errorString : TypeId := 10
abbrev T_runtime_plainError : TypeId := 11
abbrev T_uintptr : TypeId := 12
abbrev T_n13 : TypeId := 13
abbrev T_runtime_errorAddressString : TypeId := 14
abbrev T_P_runtime_TypeAssertionError : TypeId := 15
abbrev T_P_runtime_PanicNilError : TypeId := 16
abbrev T_P_abi_Type : TypeId := 17
abbrev T_n18 : TypeId := 18
abbrev T_maps_unhashableTypeError : TypeId := 19
abbrev T_interface : TypeId := 20
abbrev T_int32 : TypeId := 21
abbrev T_L_api_Token : TypeId := 22
abbrev T_n23 : TypeId := 23
abbrev T_n24 : TypeId := 24
abbrev T_api_Errno : TypeId := 25
abbrev T_n26 : TypeId := 26
abbrev T_n27 : TypeId := 27
abbrev T_n28 : TypeId := 28
abbrev T_n29 : TypeId := 29
abbrev T_n30 : TypeId := 30
abbrev T_n31 : TypeId := 31
abbrev T_n32 : TypeId := 32
abbrev T_api_Token : TypeId := 33
abbrev T_n34 : TypeId := 34
abbrev T_n35 : TypeId := 35
abbrev T_L_string : TypeId := 36
abbrev T_n37 : TypeId := 37
abbrev T_n38 : TypeId := 38
abbrev T_n39 : TypeId := 39
abbrev T_n40 : TypeId := 40
abbrev T_n41 : TypeId := 41
abbrev T_n42 : TypeId := 42
abbrev T_n43 : TypeId := 43
abbrev T_n44 : TypeId := 44
abbrev T_n45 : TypeId := 45
abbrev T_P_lex_reader : TypeId := 46
abbrev T_n47 : TypeId := 47
abbrev T_lex_reader : TypeId := 48
abbrev T_n49 : TypeId := 49
abbrev T_n50 : TypeId := 50
abbrev T_n51 : TypeId := 51
abbrev T_n52 : TypeId := 52
abbrev T_n53 : TypeId := 53
abbrev T_n54 : TypeId := 54
abbrev T_L_uint8 : TypeId := 55
abbrev T_A13_string : TypeId := 56
abbrev T_n57 : TypeId := 57
abbrev T_n58 : TypeId := 58
abbrev T_n59 : TypeId := 59
abbrev T_n60 : TypeId := 60
abbrev T_uint64 : TypeId := 61
abbrev T_n62 : TypeId := 62
abbrev T_n63 : TypeId := 63
abbrev T_A21_string : TypeId := 64
abbrev T_A20_uint8 : TypeId := 65
abbrev T_n66 : TypeId := 66
abbrev T_n67 : TypeId := 67
abbrev T_n68 : TypeId := 68
abbrev T_L_int : TypeId := 69
abbrev T_n70 : TypeId := 70
abbrev T_n71 : TypeId := 71
abbrev T_n72 : TypeId := 72
abbrev T_uint : TypeId := 73
abbrev T_n74 : TypeId := 74
abbrev T_runtime_TypeAssertionError : TypeId := 75
abbrev T_A0_P_runtime_PanicNilError : TypeId := 76
abbrev T_n77 : TypeId := 77
abbrev T_runtime_PanicNilError : TypeId := 78
abbrev T_n79 : TypeId := 79
abbrev T_uint32 : TypeId := 80
abbrev T_abi_TFlag : TypeId := 81
abbrev T_abi_Kind : TypeId := 82
abbrev T_n83 : TypeId := 83
abbrev T_P_uint8 : TypeId := 84
abbrev T_abi_NameOff : TypeId := 85
abbrev T_abi_TypeOff : TypeId := 86
abbrev T_n87 : TypeId := 87
abbrev T_abi_Type : TypeId := 88
abbrev T_unsafe_Pointer : TypeId := 89
def keepTab : List (List (Nat × Bool)) := [[], [], [], [], [], [], [(0, false), (3, false), (6, false)], [], [], [(0, false), (5, false), (6, false)], [], [], [(4, true), (16, false), (17, false), (18, false)], [(0, false), (4, true), (5, false)], [(0, false), (7, false), (8, false), (9, false)], [(0, false), (3, false), (4, false)], [(0, false), (22, false), (23, false)], [(0, false), (3, false)], [(5, false), (6, true)], [(0, false), (1, false), (2, false), (7, false)], [], [], [], [(0, false), (1, false), (5, false), (6, false)], [], [(3, true), (6, false), (7, false), (8, false)], [(0, false), (3, false), (4, false)], [], [(0, false), (5, false), (6, false)], [], [], [], [(0, false), (1, false), (5, false)], [], [(0, false)], [], [(0, false), (3, false), (4, false)], [(0, false), (2, false), (4, false), (8, false)], [(0, false), (3, false), (6, false), (7, false)], [(0, false), (3, false), (4, false), (5, false)], [], [], [], [(0, false), (3, false)], [(4, false), (5, false), (6, false), (7, false), (8, false)], [], [(0, false), (3, false)], [(0, false), (4, false), (5, false)], [], [], [], [(0, false), (3, false), (4, false)], [(0, false), (1, false), (2, false), (7, true), (8, false)], [(0, false), (3, true), (4, false)], [(0, false), (3, true), (4, false)]]
def glTab (g : Nat) : Option (List V) := match g with | 0 => some [.str ⟨#[112, 114, 111, 99]⟩, .str ⟨#[118, 97, 114]⟩, .str ⟨#[105, 102]⟩, .str ⟨#[101, 108, 115, 101]⟩, .str ⟨#[119, 104, 105, 108, 101]⟩, .str ⟨#[114, 101, 116, 117, 114, 110]⟩, .str ⟨#[112, 114, 105, 110, 116]⟩, .str ⟨#[114, 101, 97, 100]⟩, .str ⟨#[97, 115, 115, 101, 114, 116]⟩, .str ⟨#[105, 110, 116]⟩, .str ⟨#[98, 111, 111, 108]⟩, .str ⟨#[116, 114, 117, 101]⟩, .str ⟨#[102, 97, 108, 115, 101]⟩] | 1 => some [.str ⟨#[61, 61]⟩, .str ⟨#[33, 61]⟩, .str ⟨#[60, 61]⟩, .str ⟨#[38, 38]⟩, .str ⟨#[124, 124]⟩, .str ⟨#[40]⟩, .str ⟨#[41]⟩, .str ⟨#[123]⟩, .str ⟨#[125]⟩, .str ⟨#[91]⟩, .str ⟨#[93]⟩, .str ⟨#[44]⟩, .str ⟨#[59]⟩, .str ⟨#[61]⟩, .str ⟨#[60]⟩, .str ⟨#[33]⟩, .str ⟨#[43]⟩, .str ⟨#[45]⟩, .str ⟨#[42]⟩, .str ⟨#[47]⟩, .str ⟨#[37]⟩] | _ => none
noncomputable def Sp : Pg where
  P := Tryd.prog
  gl := glTab
  pz := fun e => ([] : List Nat).contains e
  keep := fun f => keepTab.getD f []
  own := fun t => match t with  | _ => []
  joins := fun f => match f with  | _ => []
  nat := fun _ => none
  pan := fun f => match f with  | _ => none
  mutl := fun f => match f with  | _ => []
  dfs := false
end Go.Proofs.YtenpcpfkiniggaaDoor
