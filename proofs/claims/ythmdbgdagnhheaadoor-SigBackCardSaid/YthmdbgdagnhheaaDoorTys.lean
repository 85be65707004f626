/- The types of this seat's program as the walk asks for them, each held against the program; its functions' numbers by their names. Written by a program of this session (tools/tys.py). -/
import Derived.Test.YthmdbgdagnhheaaDoorEvA
import Derived.Test.YthmdbgdagnhheaaDoorHvA
import Derived.Test.YthmdbgdagnhheaaDoorChecked
namespace Go.Ev
open Go.Proofs
def TT : Tys := [
  (2, ⟨false, 1, [.int .i64 0], false, .int .i64⟩),
  (3, ⟨false, 1, [.int .i64 0], false, .int .i64⟩),
  (4, ⟨false, 1, [.bool false], false, .bool⟩),
  (5, ⟨false, 1, [.int .u8 0], false, .int .u8⟩),
  (9, ⟨false, 1, [.str ByteArray.empty], false, .string⟩),
  (22, ⟨false, 1, [.int .u64 0], false, .int .u64⟩),
  (23, ⟨true, 4, [.int .u64 0, .int .u64 0, .int .u64 0, .int .u64 0], true, .array 4 1 false⟩),
  (24, ⟨true, 4, [.int .u64 0, .int .u64 0, .int .u64 0, .int .u64 0], true, .array 4 1 false⟩),
  (25, ⟨false, 1, [.slice none 0 0], false, .slice 5 1 1 false⟩),
  (26, ⟨true, 64, List.replicate 64 (.int .u8 0), true, .array 64 1 false⟩),
  (27, ⟨true, 64, List.replicate 64 (.int .u8 0), true, .array 64 1 false⟩),
  (30, ⟨true, 32, List.replicate 32 (.int .u8 0), true, .array 32 1 false⟩),
  (31, ⟨true, 32, List.replicate 32 (.int .u8 0), true, .array 32 1 false⟩),
  (37, ⟨true, 4, [.int .u64 0, .int .u64 0, .int .u64 0, .int .u64 0], true, .array 4 1 false⟩),
  (38, ⟨true, 9, [.int .u64 0, .int .u64 0, .int .u64 0, .int .u64 0, .int .u64 0, .int .u64 0, .int .u64 0, .int .u64 0, .bool false], true, .struct [(0, 4, true), (4, 4, true), (8, 1, false)]⟩),
  (39, ⟨true, 9, [.int .u64 0, .int .u64 0, .int .u64 0, .int .u64 0, .int .u64 0, .int .u64 0, .int .u64 0, .int .u64 0, .bool false], true, .struct [(0, 4, true), (4, 4, true), (8, 1, false)]⟩),
  (44, ⟨true, 32, List.replicate 32 (.int .u8 0), true, .array 32 1 false⟩),
  (56, ⟨true, 13, [.int .u64 0, .int .u64 0, .int .u64 0, .int .u64 0, .int .u64 0, .int .u64 0, .int .u64 0, .int .u64 0, .int .u64 0, .int .u64 0, .int .u64 0, .int .u64 0, .bool false], true, .struct [(0, 4, true), (4, 9, true)]⟩),
  (57, ⟨true, 13, [.int .u64 0, .int .u64 0, .int .u64 0, .int .u64 0, .int .u64 0, .int .u64 0, .int .u64 0, .int .u64 0, .int .u64 0, .int .u64 0, .int .u64 0, .int .u64 0, .bool false], true, .struct [(0, 4, true), (4, 9, true)]⟩),
  (59, ⟨false, 1, [.slice none 0 0], false, .slice 57 13 104 true⟩),
  (64, ⟨false, 1, [.slice none 0 0], false, .slice 25 1 24 false⟩),
  (66, ⟨false, 1, [.ptr none], false, .other⟩),
  (71, ⟨true, 8, List.replicate 8 (.int .u64 0), true, .array 8 1 false⟩),
  (76, ⟨false, 1, [.ptr none], false, .other⟩),
  (78, ⟨true, 12, List.replicate 12 (.int .u64 0), true, .struct [(0, 4, true), (4, 4, true), (8, 4, true)]⟩),
  (79, ⟨true, 12, List.replicate 12 (.int .u64 0), true, .struct [(0, 4, true), (4, 4, true), (8, 4, true)]⟩),
  (90, ⟨false, 1, [.int .u32 0], false, .int .u32⟩),
  (91, ⟨true, 8, List.replicate 8 (.int .u32 0), true, .array 8 1 false⟩),
  (92, ⟨true, 8, List.replicate 8 (.int .u32 0), true, .array 8 1 false⟩),
  (94, ⟨true, 10, [.int .u32 0, .int .u32 0, .int .u32 0, .int .u32 0, .int .u32 0, .int .u32 0, .int .u32 0, .int .u32 0, .slice none 0 0, .int .i64 0], false, .struct [(0, 8, true), (8, 1, false), (9, 1, false)]⟩),
  (95, ⟨true, 10, [.int .u32 0, .int .u32 0, .int .u32 0, .int .u32 0, .int .u32 0, .int .u32 0, .int .u32 0, .int .u32 0, .slice none 0 0, .int .i64 0], false, .struct [(0, 8, true), (8, 1, false), (9, 1, false)]⟩),
  (97, ⟨true, 3, [.int .u64 0, .int .u64 0, .int .u64 0], true, .array 3 1 false⟩),
  (99, ⟨false, 1, [.slice none 0 0], false, .slice 22 1 8 false⟩),
  (102, ⟨false, 1, [.int .u64 0], false, .int .u64⟩),
  (105, ⟨true, 192, List.replicate 192 (.int .u64 0), true, .array 16 12 true⟩),
  (106, ⟨true, 64, List.replicate 64 (.int .u32 0), true, .array 64 1 false⟩),
  (111, ⟨true, 4, [.ptr none, .ptr none, .ptr none, .str ByteArray.empty], false, .struct [(0, 1, false), (1, 1, false), (2, 1, false), (3, 1, false)]⟩),
  (112, ⟨true, 4, [.ptr none, .ptr none, .ptr none, .str ByteArray.empty], false, .struct [(0, 1, false), (1, 1, false), (2, 1, false), (3, 1, false)]⟩),
  (113, ⟨true, 0, [], false, .array 0 1 false⟩),
  (117, ⟨false, 1, [.int .u8 0], false, .int .u8⟩),
  (118, ⟨false, 1, [.int .u8 0], false, .int .u8⟩),
  (120, ⟨false, 1, [.ptr none], false, .other⟩),
  (121, ⟨false, 1, [.int .i32 0], false, .int .i32⟩),
  (122, ⟨false, 1, [.int .i32 0], false, .int .i32⟩),
  (123, ⟨true, 11, [.int .u64 0, .int .u64 0, .int .u32 0, .int .u8 0, .int .u8 0, .int .u8 0, .int .u8 0, .raw .nilFunc, .ptr none, .int .i32 0, .int .i32 0], false, .struct [(0, 1, false), (1, 1, false), (2, 1, false), (3, 1, false), (4, 1, false), (5, 1, false), (6, 1, false), (7, 1, false), (8, 1, false), (9, 1, false), (10, 1, false)]⟩),
  (124, ⟨true, 11, [.int .u64 0, .int .u64 0, .int .u32 0, .int .u8 0, .int .u8 0, .int .u8 0, .int .u8 0, .raw .nilFunc, .ptr none, .int .i32 0, .int .i32 0], false, .struct [(0, 1, false), (1, 1, false), (2, 1, false), (3, 1, false), (4, 1, false), (5, 1, false), (6, 1, false), (7, 1, false), (8, 1, false), (9, 1, false), (10, 1, false)]⟩)]
noncomputable abbrev PG : Program := Tryd.prog
abbrev f_law06_SigBack : Nat := 3
noncomputable abbrev F_law06_SigBack : Func := Tryd.f3
theorem h_law06_SigBack : Tryd.prog.funcs[f_law06_SigBack]? = some F_law06_SigBack := Tryd.func3
abbrev f_sig_Sign : Nat := 4
noncomputable abbrev F_sig_Sign : Func := Tryd.f4
theorem h_sig_Sign : Tryd.prog.funcs[f_sig_Sign]? = some F_sig_Sign := Tryd.func4
abbrev f_sig_Public : Nat := 5
noncomputable abbrev F_sig_Public : Func := Tryd.f5
theorem h_sig_Public : Tryd.prog.funcs[f_sig_Public]? = some F_sig_Public := Tryd.func5
abbrev f_law06_alive : Nat := 6
noncomputable abbrev F_law06_alive : Func := Tryd.f6
theorem h_law06_alive : Tryd.prog.funcs[f_law06_alive]? = some F_law06_alive := Tryd.func6
abbrev f_sig_Verify : Nat := 7
noncomputable abbrev F_sig_Verify : Func := Tryd.f7
theorem h_sig_Verify : Tryd.prog.funcs[f_sig_Verify]? = some F_sig_Verify := Tryd.func7
abbrev f_sig_pair : Nat := 8
noncomputable abbrev F_sig_pair : Func := Tryd.f8
theorem h_sig_pair : Tryd.prog.funcs[f_sig_pair]? = some F_sig_pair := Tryd.func8
abbrev f_fe_Bytes : Nat := 9
noncomputable abbrev F_fe_Bytes : Func := Tryd.f9
theorem h_fe_Bytes : Tryd.prog.funcs[f_fe_Bytes]? = some F_fe_Bytes := Tryd.func9
abbrev f_scalar_Bytes : Nat := 10
noncomputable abbrev F_scalar_Bytes : Func := Tryd.f10
theorem h_scalar_Bytes : Tryd.prog.funcs[f_scalar_Bytes]? = some F_scalar_Bytes := Tryd.func10
abbrev f_sha_Tagged : Nat := 11
noncomputable abbrev F_sha_Tagged : Func := Tryd.f11
theorem h_sha_Tagged : Tryd.prog.funcs[f_sha_Tagged]? = some F_sha_Tagged := Tryd.func11
abbrev f_sig_reduced : Nat := 12
noncomputable abbrev F_sig_reduced : Func := Tryd.f12
theorem h_sig_reduced : Tryd.prog.funcs[f_sig_reduced]? = some F_sig_reduced := Tryd.func12
abbrev f_scalar_Add : Nat := 13
noncomputable abbrev F_scalar_Add : Func := Tryd.f13
theorem h_scalar_Add : Tryd.prog.funcs[f_scalar_Add]? = some F_scalar_Add := Tryd.func13
abbrev f_scalar_Mul : Nat := 14
noncomputable abbrev F_scalar_Mul : Func := Tryd.f14
theorem h_scalar_Mul : Tryd.prog.funcs[f_scalar_Mul]? = some F_scalar_Mul := Tryd.func14
abbrev f_curve_Lift : Nat := 15
noncomputable abbrev F_curve_Lift : Func := Tryd.f15
theorem h_curve_Lift : Tryd.prog.funcs[f_curve_Lift]? = some F_curve_Lift := Tryd.func15
abbrev f_fe_Read : Nat := 16
noncomputable abbrev F_fe_Read : Func := Tryd.f16
theorem h_fe_Read : Tryd.prog.funcs[f_fe_Read]? = some F_fe_Read := Tryd.func16
abbrev f_scalar_Read : Nat := 17
noncomputable abbrev F_scalar_Read : Func := Tryd.f17
theorem h_scalar_Read : Tryd.prog.funcs[f_scalar_Read]? = some F_scalar_Read := Tryd.func17
abbrev f_curve_Multi : Nat := 18
noncomputable abbrev F_curve_Multi : Func := Tryd.f18
theorem h_curve_Multi : Tryd.prog.funcs[f_curve_Multi]? = some F_curve_Multi := Tryd.func18
abbrev f_curve_Base : Nat := 19
noncomputable abbrev F_curve_Base : Func := Tryd.f19
theorem h_curve_Base : Tryd.prog.funcs[f_curve_Base]? = some F_curve_Base := Tryd.func19
abbrev f_scalar_Neg : Nat := 20
noncomputable abbrev F_scalar_Neg : Func := Tryd.f20
theorem h_scalar_Neg : Tryd.prog.funcs[f_scalar_Neg]? = some F_scalar_Neg := Tryd.func20
abbrev f_fe_Odd : Nat := 21
noncomputable abbrev F_fe_Odd : Func := Tryd.f21
theorem h_fe_Odd : Tryd.prog.funcs[f_fe_Odd]? = some F_fe_Odd := Tryd.func21
abbrev f_scalar_Norm : Nat := 22
noncomputable abbrev F_scalar_Norm : Func := Tryd.f22
theorem h_scalar_Norm : Tryd.prog.funcs[f_scalar_Norm]? = some F_scalar_Norm := Tryd.func22
abbrev f_curve_Mul : Nat := 23
noncomputable abbrev F_curve_Mul : Func := Tryd.f23
theorem h_curve_Mul : Tryd.prog.funcs[f_curve_Mul]? = some F_curve_Mul := Tryd.func23
abbrev f_curve_Neg : Nat := 24
noncomputable abbrev F_curve_Neg : Func := Tryd.f24
theorem h_curve_Neg : Tryd.prog.funcs[f_curve_Neg]? = some F_curve_Neg := Tryd.func24
abbrev f_fe_Norm : Nat := 25
noncomputable abbrev F_fe_Norm : Func := Tryd.f25
theorem h_fe_Norm : Tryd.prog.funcs[f_fe_Norm]? = some F_fe_Norm := Tryd.func25
abbrev f_sha_Of : Nat := 26
noncomputable abbrev F_sha_Of : Func := Tryd.f26
theorem h_sha_Of : Tryd.prog.funcs[f_sha_Of]? = some F_sha_Of := Tryd.func26
abbrev f_sha_New : Nat := 27
noncomputable abbrev F_sha_New : Func := Tryd.f27
theorem h_sha_New : Tryd.prog.funcs[f_sha_New]? = some F_sha_New := Tryd.func27
abbrev f_sha_Hash_Write : Nat := 28
noncomputable abbrev F_sha_Hash_Write : Func := Tryd.f28
theorem h_sha_Hash_Write : Tryd.prog.funcs[f_sha_Hash_Write]? = some F_sha_Hash_Write := Tryd.func28
abbrev f_sha_Hash_Sum : Nat := 29
noncomputable abbrev F_sha_Hash_Sum : Func := Tryd.f29
theorem h_sha_Hash_Sum : Tryd.prog.funcs[f_sha_Hash_Sum]? = some F_sha_Hash_Sum := Tryd.func29
abbrev f_scalar_Reduce : Nat := 30
noncomputable abbrev F_scalar_Reduce : Func := Tryd.f30
theorem h_scalar_Reduce : Tryd.prog.funcs[f_scalar_Reduce]? = some F_scalar_Reduce := Tryd.func30
abbrev f_bits_Add64 : Nat := 31
noncomputable abbrev F_bits_Add64 : Func := Tryd.f31
theorem h_bits_Add64 : Tryd.prog.funcs[f_bits_Add64]? = some F_bits_Add64 := Tryd.func31
abbrev f_scalar_folded : Nat := 32
noncomputable abbrev F_scalar_folded : Func := Tryd.f32
theorem h_scalar_folded : Tryd.prog.funcs[f_scalar_folded]? = some F_scalar_folded := Tryd.func32
abbrev f_scalar_gather : Nat := 33
noncomputable abbrev F_scalar_gather : Func := Tryd.f33
theorem h_scalar_gather : Tryd.prog.funcs[f_scalar_gather]? = some F_scalar_gather := Tryd.func33
abbrev f_fe_Sqrt : Nat := 34
noncomputable abbrev F_fe_Sqrt : Func := Tryd.f34
theorem h_fe_Sqrt : Tryd.prog.funcs[f_fe_Sqrt]? = some F_fe_Sqrt := Tryd.func34
abbrev f_curve_cube : Nat := 35
noncomputable abbrev F_curve_cube : Func := Tryd.f35
theorem h_curve_cube : Tryd.prog.funcs[f_curve_cube]? = some F_curve_cube := Tryd.func35
abbrev f_curve_Zero : Nat := 36
noncomputable abbrev F_curve_Zero : Func := Tryd.f36
theorem h_curve_Zero : Tryd.prog.funcs[f_curve_Zero]? = some F_curve_Zero := Tryd.func36
abbrev f_scalar_words : Nat := 37
noncomputable abbrev F_scalar_words : Func := Tryd.f37
theorem h_scalar_words : Tryd.prog.funcs[f_scalar_words]? = some F_scalar_words := Tryd.func37
abbrev f_curve_far_plus : Nat := 38
noncomputable abbrev F_curve_far_plus : Func := Tryd.f38
theorem h_curve_far_plus : Tryd.prog.funcs[f_curve_far_plus]? = some F_curve_far_plus := Tryd.func38
abbrev f_curve_out : Nat := 39
noncomputable abbrev F_curve_out : Func := Tryd.f39
theorem h_curve_out : Tryd.prog.funcs[f_curve_out]? = some F_curve_out := Tryd.func39
abbrev f_curve_far_times : Nat := 40
noncomputable abbrev F_curve_far_times : Func := Tryd.f40
theorem h_curve_far_times : Tryd.prog.funcs[f_curve_far_times]? = some F_curve_far_times := Tryd.func40
abbrev f_curve_far_home : Nat := 41
noncomputable abbrev F_curve_far_home : Func := Tryd.f41
theorem h_curve_far_home : Tryd.prog.funcs[f_curve_far_home]? = some F_curve_far_home := Tryd.func41
abbrev f_scalar_minus : Nat := 42
noncomputable abbrev F_scalar_minus : Func := Tryd.f42
theorem h_scalar_minus : Tryd.prog.funcs[f_scalar_minus]? = some F_scalar_minus := Tryd.func42
abbrev f_scalar_order : Nat := 43
noncomputable abbrev F_scalar_order : Func := Tryd.f43
theorem h_scalar_order : Tryd.prog.funcs[f_scalar_order]? = some F_scalar_order := Tryd.func43
abbrev f_curve_Right : Nat := 44
noncomputable abbrev F_curve_Right : Func := Tryd.f44
theorem h_curve_Right : Tryd.prog.funcs[f_curve_Right]? = some F_curve_Right := Tryd.func44
abbrev f_fe_Neg : Nat := 45
noncomputable abbrev F_fe_Neg : Func := Tryd.f45
theorem h_fe_Neg : Tryd.prog.funcs[f_fe_Neg]? = some F_fe_Neg := Tryd.func45
abbrev f_fe_minus : Nat := 46
noncomputable abbrev F_fe_minus : Func := Tryd.f46
theorem h_fe_minus : Tryd.prog.funcs[f_fe_minus]? = some F_fe_minus := Tryd.func46
abbrev f_fe_prime : Nat := 47
noncomputable abbrev F_fe_prime : Func := Tryd.f47
theorem h_fe_prime : Tryd.prog.funcs[f_fe_prime]? = some F_fe_prime := Tryd.func47
abbrev f_sha_begun : Nat := 48
noncomputable abbrev F_sha_begun : Func := Tryd.f48
theorem h_sha_begun : Tryd.prog.funcs[f_sha_begun]? = some F_sha_begun := Tryd.func48
abbrev f_sha_state_mixed : Nat := 49
noncomputable abbrev F_sha_state_mixed : Func := Tryd.f49
theorem h_sha_state_mixed : Tryd.prog.funcs[f_sha_state_mixed]? = some F_sha_state_mixed := Tryd.func49
abbrev f_scalar_less : Nat := 50
noncomputable abbrev F_scalar_less : Func := Tryd.f50
theorem h_scalar_less : Tryd.prog.funcs[f_scalar_less]? = some F_scalar_less := Tryd.func50
abbrev f_bits_Mul64 : Nat := 51
noncomputable abbrev F_bits_Mul64 : Func := Tryd.f51
theorem h_bits_Mul64 : Tryd.prog.funcs[f_bits_Mul64]? = some F_bits_Mul64 := Tryd.func51
abbrev f_fe_plus : Nat := 52
noncomputable abbrev F_fe_plus : Func := Tryd.f52
theorem h_fe_plus : Tryd.prog.funcs[f_fe_plus]? = some F_fe_plus := Tryd.func52
abbrev f_fe_Of : Nat := 53
noncomputable abbrev F_fe_Of : Func := Tryd.f53
theorem h_fe_Of : Tryd.prog.funcs[f_fe_Of]? = some F_fe_Of := Tryd.func53
abbrev f_fe_power : Nat := 54
noncomputable abbrev F_fe_power : Func := Tryd.f54
theorem h_fe_power : Tryd.prog.funcs[f_fe_power]? = some F_fe_power := Tryd.func54
abbrev f_fe_Mul : Nat := 55
noncomputable abbrev F_fe_Mul : Func := Tryd.f55
theorem h_fe_Mul : Tryd.prog.funcs[f_fe_Mul]? = some F_fe_Mul := Tryd.func55
abbrev f_fe_Add : Nat := 56
noncomputable abbrev F_fe_Add : Func := Tryd.f56
theorem h_fe_Add : Tryd.prog.funcs[f_fe_Add]? = some F_fe_Add := Tryd.func56
abbrev f_curve_seven : Nat := 57
noncomputable abbrev F_curve_seven : Func := Tryd.f57
theorem h_curve_seven : Tryd.prog.funcs[f_curve_seven]? = some F_curve_seven := Tryd.func57
abbrev f_fe_Sub : Nat := 58
noncomputable abbrev F_fe_Sub : Func := Tryd.f58
theorem h_fe_Sub : Tryd.prog.funcs[f_fe_Sub]? = some F_fe_Sub := Tryd.func58
abbrev f_curve_far_twice : Nat := 59
noncomputable abbrev F_curve_far_twice : Func := Tryd.f59
theorem h_curve_far_twice : Tryd.prog.funcs[f_curve_far_twice]? = some F_curve_far_twice := Tryd.func59
abbrev f_fe_Inv : Nat := 60
noncomputable abbrev F_fe_Inv : Func := Tryd.f60
theorem h_fe_Inv : Tryd.prog.funcs[f_fe_Inv]? = some F_fe_Inv := Tryd.func60
abbrev f_bits_Sub64 : Nat := 61
noncomputable abbrev F_bits_Sub64 : Func := Tryd.f61
theorem h_bits_Sub64 : Tryd.prog.funcs[f_bits_Sub64]? = some F_bits_Sub64 := Tryd.func61
abbrev f_sha_turn : Nat := 62
noncomputable abbrev F_sha_turn : Func := Tryd.f62
theorem h_sha_turn : Tryd.prog.funcs[f_sha_turn]? = some F_sha_turn := Tryd.func62
abbrev f_fe_times : Nat := 63
noncomputable abbrev F_fe_times : Func := Tryd.f63
theorem h_fe_times : Tryd.prog.funcs[f_fe_times]? = some F_fe_times := Tryd.func63
abbrev f_bits_RotateLeft32 : Nat := 64
noncomputable abbrev F_bits_RotateLeft32 : Func := Tryd.f64
theorem h_bits_RotateLeft32 : Tryd.prog.funcs[f_bits_RotateLeft32]? = some F_bits_RotateLeft32 := Tryd.func64
abbrev f_sha_Hash_Len : Nat := 80
noncomputable abbrev F_sha_Hash_Len : Func := Tryd.f80
theorem h_sha_Hash_Len : Tryd.prog.funcs[f_sha_Hash_Len]? = some F_sha_Hash_Len := Tryd.func80
abbrev t_int : Nat := 3
abbrev t_bool : Nat := 4
abbrev t_uint8 : Nat := 5
abbrev t_string : Nat := 9
abbrev t_uint64 : Nat := 22
abbrev t_a4_uint64 : Nat := 23
abbrev t_api_Scalar : Nat := 24
abbrev t_s_uint8 : Nat := 25
abbrev t_a64_uint8 : Nat := 26
abbrev t_api_Sig : Nat := 27
abbrev t_a32_uint8 : Nat := 30
abbrev t_api_Key : Nat := 31
abbrev t_api_Fe : Nat := 37
abbrev t_api_Point : Nat := 39
abbrev t_api_Digest : Nat := 44
abbrev t_api_Term : Nat := 57
abbrev t_s_api_Term : Nat := 59
abbrev t_s_s_uint8 : Nat := 64
abbrev t_a8_uint64 : Nat := 71
abbrev t_curve_far : Nat := 79
abbrev t_uint32 : Nat := 90
abbrev t_a8_uint32 : Nat := 91
abbrev t_sha_state : Nat := 92
abbrev t_sha_Hash : Nat := 95
abbrev t_a3_uint64 : Nat := 97
abbrev t_s_uint64 : Nat := 99
abbrev t_a16_curve_far : Nat := 105
abbrev t_a64_uint32 : Nat := 106
abbrev g_sha_table : Nat := 0
def prim0 : Nat → Option Prim
  | 31 => some .add64
  | 61 => some .sub64
  | _ => none
def prim1 : Nat → Option Prim
  | 31 => some .add64
  | 61 => some .sub64
  | 51 => some .mul64
  | _ => none
def rd : Nat → Bool
  | 33 => false
  | _ => true
def hk : Nat → Nat
  | 3 => 1
  | 4 => 1
  | 6 => 1
  | 7 => 1
  | 11 => 1
  | 12 => 1
  | 18 => 1
  | 26 => 1
  | 27 => 3
  | 28 => 3
  | 29 => 1
  | 33 => 3
  | 49 => 1
  | 65 => 1
  | 67 => 1
  | 68 => 1
  | 69 => 1
  | 70 => 1
  | 71 => 1
  | 72 => 1
  | 73 => 1
  | 74 => 1
  | 75 => 1
  | 76 => 1
  | 77 => 1
  | 78 => 1
  | 79 => 1
  | 80 => 1
  | 81 => 1
  | 85 => 1
  | _ => 0
noncomputable def HHo (A : Hv.Base) (ord : Nat → Option (List Nat)) : Hv.Cfg := ⟨Tryd.prog, A, TT, prim1, hk, ord⟩
noncomputable abbrev HH (A : Hv.Base) : Hv.Cfg := HHo A (fun _ => none)
noncomputable def G0 (W0 : World) : Cfg := ⟨Tryd.prog, W0, TT, prim0, rd⟩
noncomputable def GG (W0 : World) : Cfg := ⟨Tryd.prog, W0, TT, prim1, rd⟩
theorem row2 : RowOk Tryd.prog 2 ⟨false, 1, [.int .i64 0], false, .int .i64⟩ :=
  ⟨by kernel_rfl, by kernel_rfl, by kernel_rfl, by kernel_rfl, (show Tryd.prog.underlying 2 = some (.int .i64) by kernel_rfl), fun h => by cases h⟩
theorem row3 : RowOk Tryd.prog 3 ⟨false, 1, [.int .i64 0], false, .int .i64⟩ :=
  ⟨by kernel_rfl, by kernel_rfl, by kernel_rfl, by kernel_rfl, (show Tryd.prog.underlying 3 = some (.int .i64) by kernel_rfl), fun h => by cases h⟩
theorem row4 : RowOk Tryd.prog 4 ⟨false, 1, [.bool false], false, .bool⟩ :=
  ⟨by kernel_rfl, by kernel_rfl, by kernel_rfl, by kernel_rfl, (show Tryd.prog.underlying 4 = some (.bool) by kernel_rfl), fun h => by cases h⟩
theorem row5 : RowOk Tryd.prog 5 ⟨false, 1, [.int .u8 0], false, .int .u8⟩ :=
  ⟨by kernel_rfl, by kernel_rfl, by kernel_rfl, by kernel_rfl, (show Tryd.prog.underlying 5 = some (.int .u8) by kernel_rfl), fun h => by cases h⟩
theorem row9 : RowOk Tryd.prog 9 ⟨false, 1, [.str ByteArray.empty], false, .string⟩ :=
  ⟨by kernel_rfl, by kernel_rfl, by kernel_rfl, by kernel_rfl, (show Tryd.prog.underlying 9 = some (.string) by kernel_rfl), fun h => by cases h⟩
theorem row22 : RowOk Tryd.prog 22 ⟨false, 1, [.int .u64 0], false, .int .u64⟩ :=
  ⟨by kernel_rfl, by kernel_rfl, by kernel_rfl, by kernel_rfl, (show Tryd.prog.underlying 22 = some (.int .u64) by kernel_rfl), fun h => by cases h⟩
theorem row23 : RowOk Tryd.prog 23 ⟨true, 4, [.int .u64 0, .int .u64 0, .int .u64 0, .int .u64 0], true, .array 4 1 false⟩ :=
  ⟨by kernel_rfl, by kernel_rfl, by kernel_rfl, by kernel_rfl, kArray (by kernel_rfl), fun _ => eqRow_of (ks := [some .u64, some .u64, some .u64, some .u64]) (D := 12) (by decide) (by kernel_rfl) (by kernel_rfl) (by kernel_rfl) (by kernel_rfl)⟩
theorem row24 : RowOk Tryd.prog 24 ⟨true, 4, [.int .u64 0, .int .u64 0, .int .u64 0, .int .u64 0], true, .array 4 1 false⟩ :=
  ⟨by kernel_rfl, by kernel_rfl, by kernel_rfl, by kernel_rfl, kArray (by kernel_rfl), fun _ => eqRow_of (ks := [some .u64, some .u64, some .u64, some .u64]) (D := 12) (by decide) (by kernel_rfl) (by kernel_rfl) (by kernel_rfl) (by kernel_rfl)⟩
theorem row25 : RowOk Tryd.prog 25 ⟨false, 1, [.slice none 0 0], false, .slice 5 1 1 false⟩ :=
  ⟨by kernel_rfl, by kernel_rfl, by kernel_rfl, by kernel_rfl, kSlice (by kernel_rfl), fun h => by cases h⟩
theorem row26 : RowOk Tryd.prog 26 ⟨true, 64, List.replicate 64 (.int .u8 0), true, .array 64 1 false⟩ :=
  ⟨by kernel_rfl, by kernel_rfl, by kernel_rfl, by kernel_rfl, kArray (by kernel_rfl), fun _ => eqRow_of (ks := List.replicate 64 (some .u8)) (D := 12) (by decide) (by kernel_rfl) (by kernel_rfl) (by kernel_rfl) (by kernel_rfl)⟩
theorem row27 : RowOk Tryd.prog 27 ⟨true, 64, List.replicate 64 (.int .u8 0), true, .array 64 1 false⟩ :=
  ⟨by kernel_rfl, by kernel_rfl, by kernel_rfl, by kernel_rfl, kArray (by kernel_rfl), fun _ => eqRow_of (ks := List.replicate 64 (some .u8)) (D := 12) (by decide) (by kernel_rfl) (by kernel_rfl) (by kernel_rfl) (by kernel_rfl)⟩
theorem row30 : RowOk Tryd.prog 30 ⟨true, 32, List.replicate 32 (.int .u8 0), true, .array 32 1 false⟩ :=
  ⟨by kernel_rfl, by kernel_rfl, by kernel_rfl, by kernel_rfl, kArray (by kernel_rfl), fun _ => eqRow_of (ks := List.replicate 32 (some .u8)) (D := 12) (by decide) (by kernel_rfl) (by kernel_rfl) (by kernel_rfl) (by kernel_rfl)⟩
theorem row31 : RowOk Tryd.prog 31 ⟨true, 32, List.replicate 32 (.int .u8 0), true, .array 32 1 false⟩ :=
  ⟨by kernel_rfl, by kernel_rfl, by kernel_rfl, by kernel_rfl, kArray (by kernel_rfl), fun _ => eqRow_of (ks := List.replicate 32 (some .u8)) (D := 12) (by decide) (by kernel_rfl) (by kernel_rfl) (by kernel_rfl) (by kernel_rfl)⟩
theorem row37 : RowOk Tryd.prog 37 ⟨true, 4, [.int .u64 0, .int .u64 0, .int .u64 0, .int .u64 0], true, .array 4 1 false⟩ :=
  ⟨by kernel_rfl, by kernel_rfl, by kernel_rfl, by kernel_rfl, kArray (by kernel_rfl), fun _ => eqRow_of (ks := [some .u64, some .u64, some .u64, some .u64]) (D := 12) (by decide) (by kernel_rfl) (by kernel_rfl) (by kernel_rfl) (by kernel_rfl)⟩
theorem row38 : RowOk Tryd.prog 38 ⟨true, 9, [.int .u64 0, .int .u64 0, .int .u64 0, .int .u64 0, .int .u64 0, .int .u64 0, .int .u64 0, .int .u64 0, .bool false], true, .struct [(0, 4, true), (4, 4, true), (8, 1, false)]⟩ :=
  ⟨by kernel_rfl, by kernel_rfl, by kernel_rfl, by kernel_rfl, kStruct (by kernel_rfl), fun _ => eqRow_of (ks := [some .u64, some .u64, some .u64, some .u64, some .u64, some .u64, some .u64, some .u64, none]) (D := 12) (by decide) (by kernel_rfl) (by kernel_rfl) (by kernel_rfl) (by kernel_rfl)⟩
theorem row39 : RowOk Tryd.prog 39 ⟨true, 9, [.int .u64 0, .int .u64 0, .int .u64 0, .int .u64 0, .int .u64 0, .int .u64 0, .int .u64 0, .int .u64 0, .bool false], true, .struct [(0, 4, true), (4, 4, true), (8, 1, false)]⟩ :=
  ⟨by kernel_rfl, by kernel_rfl, by kernel_rfl, by kernel_rfl, kStruct (by kernel_rfl), fun _ => eqRow_of (ks := [some .u64, some .u64, some .u64, some .u64, some .u64, some .u64, some .u64, some .u64, none]) (D := 12) (by decide) (by kernel_rfl) (by kernel_rfl) (by kernel_rfl) (by kernel_rfl)⟩
theorem row44 : RowOk Tryd.prog 44 ⟨true, 32, List.replicate 32 (.int .u8 0), true, .array 32 1 false⟩ :=
  ⟨by kernel_rfl, by kernel_rfl, by kernel_rfl, by kernel_rfl, kArray (by kernel_rfl), fun _ => eqRow_of (ks := List.replicate 32 (some .u8)) (D := 12) (by decide) (by kernel_rfl) (by kernel_rfl) (by kernel_rfl) (by kernel_rfl)⟩
theorem row56 : RowOk Tryd.prog 56 ⟨true, 13, [.int .u64 0, .int .u64 0, .int .u64 0, .int .u64 0, .int .u64 0, .int .u64 0, .int .u64 0, .int .u64 0, .int .u64 0, .int .u64 0, .int .u64 0, .int .u64 0, .bool false], true, .struct [(0, 4, true), (4, 9, true)]⟩ :=
  ⟨by kernel_rfl, by kernel_rfl, by kernel_rfl, by kernel_rfl, kStruct (by kernel_rfl), fun _ => eqRow_of (ks := [some .u64, some .u64, some .u64, some .u64, some .u64, some .u64, some .u64, some .u64, some .u64, some .u64, some .u64, some .u64, none]) (D := 12) (by decide) (by kernel_rfl) (by kernel_rfl) (by kernel_rfl) (by kernel_rfl)⟩
theorem row57 : RowOk Tryd.prog 57 ⟨true, 13, [.int .u64 0, .int .u64 0, .int .u64 0, .int .u64 0, .int .u64 0, .int .u64 0, .int .u64 0, .int .u64 0, .int .u64 0, .int .u64 0, .int .u64 0, .int .u64 0, .bool false], true, .struct [(0, 4, true), (4, 9, true)]⟩ :=
  ⟨by kernel_rfl, by kernel_rfl, by kernel_rfl, by kernel_rfl, kStruct (by kernel_rfl), fun _ => eqRow_of (ks := [some .u64, some .u64, some .u64, some .u64, some .u64, some .u64, some .u64, some .u64, some .u64, some .u64, some .u64, some .u64, none]) (D := 12) (by decide) (by kernel_rfl) (by kernel_rfl) (by kernel_rfl) (by kernel_rfl)⟩
theorem row59 : RowOk Tryd.prog 59 ⟨false, 1, [.slice none 0 0], false, .slice 57 13 104 true⟩ :=
  ⟨by kernel_rfl, by kernel_rfl, by kernel_rfl, by kernel_rfl, kSlice (by kernel_rfl), fun h => by cases h⟩
theorem row64 : RowOk Tryd.prog 64 ⟨false, 1, [.slice none 0 0], false, .slice 25 1 24 false⟩ :=
  ⟨by kernel_rfl, by kernel_rfl, by kernel_rfl, by kernel_rfl, kSlice (by kernel_rfl), fun h => by cases h⟩
theorem row66 : RowOk Tryd.prog 66 ⟨false, 1, [.ptr none], false, .other⟩ :=
  ⟨by kernel_rfl, by kernel_rfl, by kernel_rfl, by kernel_rfl, trivial, fun h => by cases h⟩
theorem row71 : RowOk Tryd.prog 71 ⟨true, 8, List.replicate 8 (.int .u64 0), true, .array 8 1 false⟩ :=
  ⟨by kernel_rfl, by kernel_rfl, by kernel_rfl, by kernel_rfl, kArray (by kernel_rfl), fun _ => eqRow_of (ks := List.replicate 8 (some .u64)) (D := 12) (by decide) (by kernel_rfl) (by kernel_rfl) (by kernel_rfl) (by kernel_rfl)⟩
theorem row76 : RowOk Tryd.prog 76 ⟨false, 1, [.ptr none], false, .other⟩ :=
  ⟨by kernel_rfl, by kernel_rfl, by kernel_rfl, by kernel_rfl, trivial, fun h => by cases h⟩
theorem row78 : RowOk Tryd.prog 78 ⟨true, 12, List.replicate 12 (.int .u64 0), true, .struct [(0, 4, true), (4, 4, true), (8, 4, true)]⟩ :=
  ⟨by kernel_rfl, by kernel_rfl, by kernel_rfl, by kernel_rfl, kStruct (by kernel_rfl), fun _ => eqRow_of (ks := List.replicate 12 (some .u64)) (D := 12) (by decide) (by kernel_rfl) (by kernel_rfl) (by kernel_rfl) (by kernel_rfl)⟩
theorem row79 : RowOk Tryd.prog 79 ⟨true, 12, List.replicate 12 (.int .u64 0), true, .struct [(0, 4, true), (4, 4, true), (8, 4, true)]⟩ :=
  ⟨by kernel_rfl, by kernel_rfl, by kernel_rfl, by kernel_rfl, kStruct (by kernel_rfl), fun _ => eqRow_of (ks := List.replicate 12 (some .u64)) (D := 12) (by decide) (by kernel_rfl) (by kernel_rfl) (by kernel_rfl) (by kernel_rfl)⟩
theorem row90 : RowOk Tryd.prog 90 ⟨false, 1, [.int .u32 0], false, .int .u32⟩ :=
  ⟨by kernel_rfl, by kernel_rfl, by kernel_rfl, by kernel_rfl, (show Tryd.prog.underlying 90 = some (.int .u32) by kernel_rfl), fun h => by cases h⟩
theorem row91 : RowOk Tryd.prog 91 ⟨true, 8, List.replicate 8 (.int .u32 0), true, .array 8 1 false⟩ :=
  ⟨by kernel_rfl, by kernel_rfl, by kernel_rfl, by kernel_rfl, kArray (by kernel_rfl), fun _ => eqRow_of (ks := List.replicate 8 (some .u32)) (D := 12) (by decide) (by kernel_rfl) (by kernel_rfl) (by kernel_rfl) (by kernel_rfl)⟩
theorem row92 : RowOk Tryd.prog 92 ⟨true, 8, List.replicate 8 (.int .u32 0), true, .array 8 1 false⟩ :=
  ⟨by kernel_rfl, by kernel_rfl, by kernel_rfl, by kernel_rfl, kArray (by kernel_rfl), fun _ => eqRow_of (ks := List.replicate 8 (some .u32)) (D := 12) (by decide) (by kernel_rfl) (by kernel_rfl) (by kernel_rfl) (by kernel_rfl)⟩
theorem row94 : RowOk Tryd.prog 94 ⟨true, 10, [.int .u32 0, .int .u32 0, .int .u32 0, .int .u32 0, .int .u32 0, .int .u32 0, .int .u32 0, .int .u32 0, .slice none 0 0, .int .i64 0], false, .struct [(0, 8, true), (8, 1, false), (9, 1, false)]⟩ :=
  ⟨by kernel_rfl, by kernel_rfl, by kernel_rfl, by kernel_rfl, kStruct (by kernel_rfl), fun h => by cases h⟩
theorem row95 : RowOk Tryd.prog 95 ⟨true, 10, [.int .u32 0, .int .u32 0, .int .u32 0, .int .u32 0, .int .u32 0, .int .u32 0, .int .u32 0, .int .u32 0, .slice none 0 0, .int .i64 0], false, .struct [(0, 8, true), (8, 1, false), (9, 1, false)]⟩ :=
  ⟨by kernel_rfl, by kernel_rfl, by kernel_rfl, by kernel_rfl, kStruct (by kernel_rfl), fun h => by cases h⟩
theorem row97 : RowOk Tryd.prog 97 ⟨true, 3, [.int .u64 0, .int .u64 0, .int .u64 0], true, .array 3 1 false⟩ :=
  ⟨by kernel_rfl, by kernel_rfl, by kernel_rfl, by kernel_rfl, kArray (by kernel_rfl), fun _ => eqRow_of (ks := [some .u64, some .u64, some .u64]) (D := 12) (by decide) (by kernel_rfl) (by kernel_rfl) (by kernel_rfl) (by kernel_rfl)⟩
theorem row99 : RowOk Tryd.prog 99 ⟨false, 1, [.slice none 0 0], false, .slice 22 1 8 false⟩ :=
  ⟨by kernel_rfl, by kernel_rfl, by kernel_rfl, by kernel_rfl, kSlice (by kernel_rfl), fun h => by cases h⟩
theorem row102 : RowOk Tryd.prog 102 ⟨false, 1, [.int .u64 0], false, .int .u64⟩ :=
  ⟨by kernel_rfl, by kernel_rfl, by kernel_rfl, by kernel_rfl, (show Tryd.prog.underlying 102 = some (.int .u64) by kernel_rfl), fun h => by cases h⟩
theorem row105 : RowOk Tryd.prog 105 ⟨true, 192, List.replicate 192 (.int .u64 0), true, .array 16 12 true⟩ :=
  ⟨by kernel_rfl, by kernel_rfl, by kernel_rfl, by kernel_rfl, kArray (by kernel_rfl), fun _ => eqRow_of (ks := List.replicate 192 (some .u64)) (D := 12) (by decide) (by kernel_rfl) (by kernel_rfl) (by kernel_rfl) (by kernel_rfl)⟩
theorem row106 : RowOk Tryd.prog 106 ⟨true, 64, List.replicate 64 (.int .u32 0), true, .array 64 1 false⟩ :=
  ⟨by kernel_rfl, by kernel_rfl, by kernel_rfl, by kernel_rfl, kArray (by kernel_rfl), fun _ => eqRow_of (ks := List.replicate 64 (some .u32)) (D := 12) (by decide) (by kernel_rfl) (by kernel_rfl) (by kernel_rfl) (by kernel_rfl)⟩
theorem row111 : RowOk Tryd.prog 111 ⟨true, 4, [.ptr none, .ptr none, .ptr none, .str ByteArray.empty], false, .struct [(0, 1, false), (1, 1, false), (2, 1, false), (3, 1, false)]⟩ :=
  ⟨by kernel_rfl, by kernel_rfl, by kernel_rfl, by kernel_rfl, kStruct (by kernel_rfl), fun h => by cases h⟩
theorem row112 : RowOk Tryd.prog 112 ⟨true, 4, [.ptr none, .ptr none, .ptr none, .str ByteArray.empty], false, .struct [(0, 1, false), (1, 1, false), (2, 1, false), (3, 1, false)]⟩ :=
  ⟨by kernel_rfl, by kernel_rfl, by kernel_rfl, by kernel_rfl, kStruct (by kernel_rfl), fun h => by cases h⟩
theorem row113 : RowOk Tryd.prog 113 ⟨true, 0, [], false, .array 0 1 false⟩ :=
  ⟨by kernel_rfl, by kernel_rfl, by kernel_rfl, by kernel_rfl, kArray (by kernel_rfl), fun h => by cases h⟩
theorem row117 : RowOk Tryd.prog 117 ⟨false, 1, [.int .u8 0], false, .int .u8⟩ :=
  ⟨by kernel_rfl, by kernel_rfl, by kernel_rfl, by kernel_rfl, (show Tryd.prog.underlying 117 = some (.int .u8) by kernel_rfl), fun h => by cases h⟩
theorem row118 : RowOk Tryd.prog 118 ⟨false, 1, [.int .u8 0], false, .int .u8⟩ :=
  ⟨by kernel_rfl, by kernel_rfl, by kernel_rfl, by kernel_rfl, (show Tryd.prog.underlying 118 = some (.int .u8) by kernel_rfl), fun h => by cases h⟩
theorem row120 : RowOk Tryd.prog 120 ⟨false, 1, [.ptr none], false, .other⟩ :=
  ⟨by kernel_rfl, by kernel_rfl, by kernel_rfl, by kernel_rfl, trivial, fun h => by cases h⟩
theorem row121 : RowOk Tryd.prog 121 ⟨false, 1, [.int .i32 0], false, .int .i32⟩ :=
  ⟨by kernel_rfl, by kernel_rfl, by kernel_rfl, by kernel_rfl, (show Tryd.prog.underlying 121 = some (.int .i32) by kernel_rfl), fun h => by cases h⟩
theorem row122 : RowOk Tryd.prog 122 ⟨false, 1, [.int .i32 0], false, .int .i32⟩ :=
  ⟨by kernel_rfl, by kernel_rfl, by kernel_rfl, by kernel_rfl, (show Tryd.prog.underlying 122 = some (.int .i32) by kernel_rfl), fun h => by cases h⟩
theorem row123 : RowOk Tryd.prog 123 ⟨true, 11, [.int .u64 0, .int .u64 0, .int .u32 0, .int .u8 0, .int .u8 0, .int .u8 0, .int .u8 0, .raw .nilFunc, .ptr none, .int .i32 0, .int .i32 0], false, .struct [(0, 1, false), (1, 1, false), (2, 1, false), (3, 1, false), (4, 1, false), (5, 1, false), (6, 1, false), (7, 1, false), (8, 1, false), (9, 1, false), (10, 1, false)]⟩ :=
  ⟨by kernel_rfl, by kernel_rfl, by kernel_rfl, by kernel_rfl, kStruct (by kernel_rfl), fun h => by cases h⟩
theorem row124 : RowOk Tryd.prog 124 ⟨true, 11, [.int .u64 0, .int .u64 0, .int .u32 0, .int .u8 0, .int .u8 0, .int .u8 0, .int .u8 0, .raw .nilFunc, .ptr none, .int .i32 0, .int .i32 0], false, .struct [(0, 1, false), (1, 1, false), (2, 1, false), (3, 1, false), (4, 1, false), (5, 1, false), (6, 1, false), (7, 1, false), (8, 1, false), (9, 1, false), (10, 1, false)]⟩ :=
  ⟨by kernel_rfl, by kernel_rfl, by kernel_rfl, by kernel_rfl, kStruct (by kernel_rfl), fun h => by cases h⟩
theorem tysOk : TysOk Tryd.prog TT := tysOk_of (by
  unfold TT
  simp only [List.forall_mem_cons]
  exact ⟨row2, row3, row4, row5, row9, row22, row23, row24, row25, row26, row27, row30, row31, row37, row38, row39, row44, row56, row57, row59, row64, row66, row71, row76, row78, row79, row90, row91, row92, row94, row95, row97, row99, row102, row105, row106, row111, row112, row113, row117, row118, row120, row121, row122, row123, row124, fun _ h => by cases h⟩)
theorem p_add64 (W0 : World) : PrimOk Tryd.prog W0 31 .add64 := primOk_add64 Tryd.func31 (by kernel_rfl) (by kernel_rfl) (by kernel_rfl) (by kernel_rfl)
theorem p_sub64 (W0 : World) : PrimOk Tryd.prog W0 61 .sub64 := primOk_sub64 Tryd.func61 (by kernel_rfl) (by kernel_rfl) (by kernel_rfl) (by kernel_rfl)
theorem g0Ok (W0 : World) : CfgOk (G0 W0) := ⟨tysOk, (fun f p h => by
  change prim0 f = some p at h
  unfold prim0 at h
  split at h
  · simp only [Option.some.injEq] at h; subst h; exact p_add64 W0
  · simp only [Option.some.injEq] at h; subst h; exact p_sub64 W0
  · cases h), by kernel_rfl⟩
theorem hhOk (hm : ∀ W0, PrimOk Tryd.prog W0 51 .mul64) (A : Hv.Base) (ord : Nat → Option (List Nat)) : Hv.CfgOk (HHo A ord) := ⟨tysOk, (fun f p h W0 => by
  change prim1 f = some p at h
  unfold prim1 at h
  split at h
  · simp only [Option.some.injEq] at h; subst h; exact p_add64 W0
  · simp only [Option.some.injEq] at h; subst h; exact p_sub64 W0
  · simp only [Option.some.injEq] at h; subst h; exact hm W0
  · cases h), by kernel_rfl⟩
theorem ggOk (hm : ∀ W0, PrimOk Tryd.prog W0 51 .mul64) (W0 : World) : CfgOk (GG W0) := ⟨tysOk, (fun f p h => by
  change prim1 f = some p at h
  unfold prim1 at h
  split at h
  · simp only [Option.some.injEq] at h; subst h; exact p_add64 W0
  · simp only [Option.some.injEq] at h; subst h; exact p_sub64 W0
  · simp only [Option.some.injEq] at h; subst h; exact hm W0
  · cases h), by kernel_rfl⟩
end Go.Ev
