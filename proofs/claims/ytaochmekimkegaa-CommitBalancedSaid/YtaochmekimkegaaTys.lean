/- The types of this seat's program as the walk asks for them, each held against the program; its functions' numbers by their names. Written by a program of this session (tools/tys.py). -/
import Derived.Test.YtaochmekimkegaaEvA
import Derived.Test.YtaochmekimkegaaHvA
import Derived.Test.YtaochmekimkegaaChecked
namespace Go.Ev
open Go.Proofs
def TT : Tys := [
  (2, ⟨false, 1, [.int .i64 0], false, .int .i64⟩),
  (3, ⟨false, 1, [.int .i64 0], false, .int .i64⟩),
  (4, ⟨false, 1, [.bool false], false, .bool⟩),
  (5, ⟨false, 1, [.int .u8 0], false, .int .u8⟩),
  (9, ⟨false, 1, [.str ByteArray.empty], false, .string⟩),
  (22, ⟨false, 1, [.slice none 0 0], false, .slice 30 9 72 true⟩),
  (25, ⟨false, 1, [.slice none 0 0], false, .slice 50 13 104 true⟩),
  (26, ⟨false, 1, [.int .u64 0], false, .int .u64⟩),
  (27, ⟨true, 4, [.int .u64 0, .int .u64 0, .int .u64 0, .int .u64 0], true, .array 4 1 false⟩),
  (28, ⟨true, 4, [.int .u64 0, .int .u64 0, .int .u64 0, .int .u64 0], true, .array 4 1 false⟩),
  (29, ⟨true, 9, [.int .u64 0, .int .u64 0, .int .u64 0, .int .u64 0, .int .u64 0, .int .u64 0, .int .u64 0, .int .u64 0, .bool false], true, .struct [(0, 4, true), (4, 4, true), (8, 1, false)]⟩),
  (30, ⟨true, 9, [.int .u64 0, .int .u64 0, .int .u64 0, .int .u64 0, .int .u64 0, .int .u64 0, .int .u64 0, .int .u64 0, .bool false], true, .struct [(0, 4, true), (4, 4, true), (8, 1, false)]⟩),
  (40, ⟨true, 4, [.int .u64 0, .int .u64 0, .int .u64 0, .int .u64 0], true, .array 4 1 false⟩),
  (45, ⟨true, 12, List.replicate 12 (.int .u64 0), true, .struct [(0, 4, true), (4, 4, true), (8, 4, true)]⟩),
  (46, ⟨true, 12, List.replicate 12 (.int .u64 0), true, .struct [(0, 4, true), (4, 4, true), (8, 4, true)]⟩),
  (49, ⟨true, 13, [.int .u64 0, .int .u64 0, .int .u64 0, .int .u64 0, .int .u64 0, .int .u64 0, .int .u64 0, .int .u64 0, .int .u64 0, .int .u64 0, .int .u64 0, .int .u64 0, .bool false], true, .struct [(0, 4, true), (4, 9, true)]⟩),
  (50, ⟨true, 13, [.int .u64 0, .int .u64 0, .int .u64 0, .int .u64 0, .int .u64 0, .int .u64 0, .int .u64 0, .int .u64 0, .int .u64 0, .int .u64 0, .int .u64 0, .int .u64 0, .bool false], true, .struct [(0, 4, true), (4, 9, true)]⟩),
  (53, ⟨true, 4, [.int .u64 0, .int .u64 0, .int .u64 0, .int .u64 0], true, .array 4 1 false⟩),
  (55, ⟨true, 3, [.int .u64 0, .int .u64 0, .int .u64 0], true, .array 3 1 false⟩),
  (56, ⟨true, 7, List.replicate 7 (.int .u64 0), true, .struct [(0, 4, true), (4, 3, true)]⟩),
  (57, ⟨true, 7, List.replicate 7 (.int .u64 0), true, .struct [(0, 4, true), (4, 3, true)]⟩),
  (61, ⟨true, 12, List.replicate 12 (.int .u64 0), true, .struct [(0, 4, true), (4, 4, true), (8, 4, true)]⟩),
  (62, ⟨true, 12, List.replicate 12 (.int .u64 0), true, .struct [(0, 4, true), (4, 4, true), (8, 4, true)]⟩),
  (71, ⟨true, 192, List.replicate 192 (.int .u64 0), true, .array 16 12 true⟩),
  (80, ⟨true, 8, List.replicate 8 (.int .u64 0), true, .array 8 1 false⟩),
  (83, ⟨false, 1, [.slice none 0 0], false, .slice 26 1 8 false⟩),
  (93, ⟨false, 1, [.int .u64 0], false, .int .u64⟩),
  (95, ⟨true, 4, [.ptr none, .ptr none, .ptr none, .str ByteArray.empty], false, .struct [(0, 1, false), (1, 1, false), (2, 1, false), (3, 1, false)]⟩),
  (96, ⟨true, 4, [.ptr none, .ptr none, .ptr none, .str ByteArray.empty], false, .struct [(0, 1, false), (1, 1, false), (2, 1, false), (3, 1, false)]⟩),
  (97, ⟨true, 0, [], false, .array 0 1 false⟩),
  (101, ⟨false, 1, [.int .u32 0], false, .int .u32⟩),
  (102, ⟨false, 1, [.int .u8 0], false, .int .u8⟩),
  (103, ⟨false, 1, [.int .u8 0], false, .int .u8⟩),
  (105, ⟨false, 1, [.ptr none], false, .other⟩),
  (106, ⟨false, 1, [.int .i32 0], false, .int .i32⟩),
  (107, ⟨false, 1, [.int .i32 0], false, .int .i32⟩),
  (108, ⟨true, 11, [.int .u64 0, .int .u64 0, .int .u32 0, .int .u8 0, .int .u8 0, .int .u8 0, .int .u8 0, .raw .nilFunc, .ptr none, .int .i32 0, .int .i32 0], false, .struct [(0, 1, false), (1, 1, false), (2, 1, false), (3, 1, false), (4, 1, false), (5, 1, false), (6, 1, false), (7, 1, false), (8, 1, false), (9, 1, false), (10, 1, false)]⟩),
  (109, ⟨true, 11, [.int .u64 0, .int .u64 0, .int .u32 0, .int .u8 0, .int .u8 0, .int .u8 0, .int .u8 0, .raw .nilFunc, .ptr none, .int .i32 0, .int .i32 0], false, .struct [(0, 1, false), (1, 1, false), (2, 1, false), (3, 1, false), (4, 1, false), (5, 1, false), (6, 1, false), (7, 1, false), (8, 1, false), (9, 1, false), (10, 1, false)]⟩)]
noncomputable abbrev PG : Program := Try.prog
abbrev f_law07_CommitBalanced : Nat := 3
noncomputable abbrev F_law07_CommitBalanced : Func := Try.f3
theorem h_law07_CommitBalanced : Try.prog.funcs[f_law07_CommitBalanced]? = some F_law07_CommitBalanced := Try.func3
abbrev f_law05_CurveSums : Nat := 4
noncomputable abbrev F_law05_CurveSums : Func := Try.f4
theorem h_law05_CurveSums : Try.prog.funcs[f_law05_CurveSums]? = some F_law05_CurveSums := Try.func4
abbrev f_law07_alive : Nat := 5
noncomputable abbrev F_law07_alive : Func := Try.f5
theorem h_law07_alive : Try.prog.funcs[f_law07_alive]? = some F_law07_alive := Try.func5
abbrev f_commit_Balanced : Nat := 6
noncomputable abbrev F_commit_Balanced : Func := Try.f6
theorem h_commit_Balanced : Try.prog.funcs[f_commit_Balanced]? = some F_commit_Balanced := Try.func6
abbrev f_ref07_Balanced : Nat := 7
noncomputable abbrev F_ref07_Balanced : Func := Try.f7
theorem h_ref07_Balanced : Try.prog.funcs[f_ref07_Balanced]? = some F_ref07_Balanced := Try.func7
abbrev f_law05_alive : Nat := 8
noncomputable abbrev F_law05_alive : Func := Try.f8
theorem h_law05_alive : Try.prog.funcs[f_law05_alive]? = some F_law05_alive := Try.func8
abbrev f_curve_Sum : Nat := 9
noncomputable abbrev F_curve_Sum : Func := Try.f9
theorem h_curve_Sum : Try.prog.funcs[f_curve_Sum]? = some F_curve_Sum := Try.func9
abbrev f_slices_Values___api_Point_api_Point_ : Nat := 10
noncomputable abbrev F_slices_Values___api_Point_api_Point_ : Func := Try.f10
theorem h_slices_Values___api_Point_api_Point_ : Try.prog.funcs[f_slices_Values___api_Point_api_Point_]? = some F_slices_Values___api_Point_api_Point_ := Try.func10
abbrev f_ref05_Sum : Nat := 11
noncomputable abbrev F_ref05_Sum : Func := Try.f11
theorem h_ref05_Sum : Try.prog.funcs[f_ref05_Sum]? = some F_ref05_Sum := Try.func11
abbrev f_curve_Multi : Nat := 12
noncomputable abbrev F_curve_Multi : Func := Try.f12
theorem h_curve_Multi : Try.prog.funcs[f_curve_Multi]? = some F_curve_Multi := Try.func12
abbrev f_ref05_Multi : Nat := 13
noncomputable abbrev F_ref05_Multi : Func := Try.f13
theorem h_ref05_Multi : Try.prog.funcs[f_ref05_Multi]? = some F_ref05_Multi := Try.func13
abbrev f_ref05_Base : Nat := 14
noncomputable abbrev F_ref05_Base : Func := Try.f14
theorem h_ref05_Base : Try.prog.funcs[f_ref05_Base]? = some F_ref05_Base := Try.func14
abbrev f_commit_Value : Nat := 15
noncomputable abbrev F_commit_Value : Func := Try.f15
theorem h_commit_Value : Try.prog.funcs[f_commit_Value]? = some F_commit_Value := Try.func15
abbrev f_ref05_Zero : Nat := 16
noncomputable abbrev F_ref05_Zero : Func := Try.f16
theorem h_ref05_Zero : Try.prog.funcs[f_ref05_Zero]? = some F_ref05_Zero := Try.func16
abbrev f_ref05_Mul : Nat := 17
noncomputable abbrev F_ref05_Mul : Func := Try.f17
theorem h_ref05_Mul : Try.prog.funcs[f_ref05_Mul]? = some F_ref05_Mul := Try.func17
abbrev f_curve_Base : Nat := 18
noncomputable abbrev F_curve_Base : Func := Try.f18
theorem h_curve_Base : Try.prog.funcs[f_curve_Base]? = some F_curve_Base := Try.func18
abbrev f_curve_Right : Nat := 19
noncomputable abbrev F_curve_Right : Func := Try.f19
theorem h_curve_Right : Try.prog.funcs[f_curve_Right]? = some F_curve_Right := Try.func19
abbrev f_curve_Add : Nat := 20
noncomputable abbrev F_curve_Add : Func := Try.f20
theorem h_curve_Add : Try.prog.funcs[f_curve_Add]? = some F_curve_Add := Try.func20
abbrev f_curve_Zero : Nat := 21
noncomputable abbrev F_curve_Zero : Func := Try.f21
theorem h_curve_Zero : Try.prog.funcs[f_curve_Zero]? = some F_curve_Zero := Try.func21
abbrev f_curve_Neg : Nat := 22
noncomputable abbrev F_curve_Neg : Func := Try.f22
theorem h_curve_Neg : Try.prog.funcs[f_curve_Neg]? = some F_curve_Neg := Try.func22
abbrev f_curve_far_plus : Nat := 23
noncomputable abbrev F_curve_far_plus : Func := Try.f23
theorem h_curve_far_plus : Try.prog.funcs[f_curve_far_plus]? = some F_curve_far_plus := Try.func23
abbrev f_curve_out : Nat := 24
noncomputable abbrev F_curve_out : Func := Try.f24
theorem h_curve_out : Try.prog.funcs[f_curve_out]? = some F_curve_out := Try.func24
abbrev f_curve_far_home : Nat := 25
noncomputable abbrev F_curve_far_home : Func := Try.f25
theorem h_curve_far_home : Try.prog.funcs[f_curve_far_home]? = some F_curve_far_home := Try.func25
abbrev f_slices_Values___api_Point_api_Point__1 : Nat := 26
noncomputable abbrev F_slices_Values___api_Point_api_Point__1 : Func := Try.f26
theorem h_slices_Values___api_Point_api_Point__1 : Try.prog.funcs[f_slices_Values___api_Point_api_Point__1]? = some F_slices_Values___api_Point_api_Point__1 := Try.func26
abbrev f_ref05_Add : Nat := 27
noncomputable abbrev F_ref05_Add : Func := Try.f27
theorem h_ref05_Add : Try.prog.funcs[f_ref05_Add]? = some F_ref05_Add := Try.func27
abbrev f_curve_far_times : Nat := 28
noncomputable abbrev F_curve_far_times : Func := Try.f28
theorem h_curve_far_times : Try.prog.funcs[f_curve_far_times]? = some F_curve_far_times := Try.func28
abbrev f_scalar_Of : Nat := 29
noncomputable abbrev F_scalar_Of : Func := Try.f29
theorem h_scalar_Of : Try.prog.funcs[f_scalar_Of]? = some F_scalar_Of := Try.func29
abbrev f_ref05_Taken : Nat := 30
noncomputable abbrev F_ref05_Taken : Func := Try.f30
theorem h_ref05_Taken : Try.prog.funcs[f_ref05_Taken]? = some F_ref05_Taken := Try.func30
abbrev f_ref03_Norm : Nat := 31
noncomputable abbrev F_ref03_Norm : Func := Try.f31
theorem h_ref03_Norm : Try.prog.funcs[f_ref03_Norm]? = some F_ref03_Norm := Try.func31
abbrev f_ref03_N : Nat := 32
noncomputable abbrev F_ref03_N : Func := Try.f32
theorem h_ref03_N : Try.prog.funcs[f_ref03_N]? = some F_ref03_N := Try.func32
abbrev f_ref03_OfScalar : Nat := 33
noncomputable abbrev F_ref03_OfScalar : Func := Try.f33
theorem h_ref03_OfScalar : Try.prog.funcs[f_ref03_OfScalar]? = some F_ref03_OfScalar := Try.func33
abbrev f_ref03_Of : Nat := 34
noncomputable abbrev F_ref03_Of : Func := Try.f34
theorem h_ref03_Of : Try.prog.funcs[f_ref03_Of]? = some F_ref03_Of := Try.func34
abbrev f_ref05_twice : Nat := 35
noncomputable abbrev F_ref05_twice : Func := Try.f35
theorem h_ref05_twice : Try.prog.funcs[f_ref05_twice]? = some F_ref05_twice := Try.func35
abbrev f_ref05_plus : Nat := 36
noncomputable abbrev F_ref05_plus : Func := Try.f36
theorem h_ref05_plus : Try.prog.funcs[f_ref05_plus]? = some F_ref05_plus := Try.func36
abbrev f_ref03_Inv : Nat := 37
noncomputable abbrev F_ref03_Inv : Func := Try.f37
theorem h_ref03_Inv : Try.prog.funcs[f_ref03_Inv]? = some F_ref03_Inv := Try.func37
abbrev f_ref03_P : Nat := 38
noncomputable abbrev F_ref03_P : Func := Try.f38
theorem h_ref03_P : Try.prog.funcs[f_ref03_P]? = some F_ref03_P := Try.func38
abbrev f_ref05_mul : Nat := 39
noncomputable abbrev F_ref05_mul : Func := Try.f39
theorem h_ref05_mul : Try.prog.funcs[f_ref05_mul]? = some F_ref05_mul := Try.func39
abbrev f_ref05_point : Nat := 40
noncomputable abbrev F_ref05_point : Func := Try.f40
theorem h_ref05_point : Try.prog.funcs[f_ref05_point]? = some F_ref05_point := Try.func40
abbrev f_fe_Norm : Nat := 41
noncomputable abbrev F_fe_Norm : Func := Try.f41
theorem h_fe_Norm : Try.prog.funcs[f_fe_Norm]? = some F_fe_Norm := Try.func41
abbrev f_fe_Mul : Nat := 42
noncomputable abbrev F_fe_Mul : Func := Try.f42
theorem h_fe_Mul : Try.prog.funcs[f_fe_Mul]? = some F_fe_Mul := Try.func42
abbrev f_curve_cube : Nat := 43
noncomputable abbrev F_curve_cube : Func := Try.f43
theorem h_curve_cube : Try.prog.funcs[f_curve_cube]? = some F_curve_cube := Try.func43
abbrev f_fe_Neg : Nat := 44
noncomputable abbrev F_fe_Neg : Func := Try.f44
theorem h_fe_Neg : Try.prog.funcs[f_fe_Neg]? = some F_fe_Neg := Try.func44
abbrev f_fe_Sub : Nat := 45
noncomputable abbrev F_fe_Sub : Func := Try.f45
theorem h_fe_Sub : Try.prog.funcs[f_fe_Sub]? = some F_fe_Sub := Try.func45
abbrev f_curve_far_twice : Nat := 46
noncomputable abbrev F_curve_far_twice : Func := Try.f46
theorem h_curve_far_twice : Try.prog.funcs[f_curve_far_twice]? = some F_curve_far_twice := Try.func46
abbrev f_fe_Add : Nat := 47
noncomputable abbrev F_fe_Add : Func := Try.f47
theorem h_fe_Add : Try.prog.funcs[f_fe_Add]? = some F_fe_Add := Try.func47
abbrev f_fe_Of : Nat := 48
noncomputable abbrev F_fe_Of : Func := Try.f48
theorem h_fe_Of : Try.prog.funcs[f_fe_Of]? = some F_fe_Of := Try.func48
abbrev f_fe_Inv : Nat := 49
noncomputable abbrev F_fe_Inv : Func := Try.f49
theorem h_fe_Inv : Try.prog.funcs[f_fe_Inv]? = some F_fe_Inv := Try.func49
abbrev f_ref05_sub : Nat := 50
noncomputable abbrev F_ref05_sub : Func := Try.f50
theorem h_ref05_sub : Try.prog.funcs[f_ref05_sub]? = some F_ref05_sub := Try.func50
abbrev f_ref05_add : Nat := 51
noncomputable abbrev F_ref05_add : Func := Try.f51
theorem h_ref05_add : Try.prog.funcs[f_ref05_add]? = some F_ref05_add := Try.func51
abbrev f_scalar_Norm : Nat := 52
noncomputable abbrev F_scalar_Norm : Func := Try.f52
theorem h_scalar_Norm : Try.prog.funcs[f_scalar_Norm]? = some F_scalar_Norm := Try.func52
abbrev f_ref05_Right : Nat := 53
noncomputable abbrev F_ref05_Right : Func := Try.f53
theorem h_ref05_Right : Try.prog.funcs[f_ref05_Right]? = some F_ref05_Right := Try.func53
abbrev f_ref03_below : Nat := 54
noncomputable abbrev F_ref03_below : Func := Try.f54
theorem h_ref03_below : Try.prog.funcs[f_ref03_below]? = some F_ref03_below := Try.func54
abbrev f_ref03_minus : Nat := 55
noncomputable abbrev F_ref03_minus : Func := Try.f55
theorem h_ref03_minus : Try.prog.funcs[f_ref03_minus]? = some F_ref03_minus := Try.func55
abbrev f_ref03_Small : Nat := 56
noncomputable abbrev F_ref03_Small : Func := Try.f56
theorem h_ref03_Small : Try.prog.funcs[f_ref03_Small]? = some F_ref03_Small := Try.func56
abbrev f_ref03_Power : Nat := 57
noncomputable abbrev F_ref03_Power : Func := Try.f57
theorem h_ref03_Power : Try.prog.funcs[f_ref03_Power]? = some F_ref03_Power := Try.func57
abbrev f_ref03_Mul : Nat := 58
noncomputable abbrev F_ref03_Mul : Func := Try.f58
theorem h_ref03_Mul : Try.prog.funcs[f_ref03_Mul]? = some F_ref03_Mul := Try.func58
abbrev f_ref03_Fe : Nat := 59
noncomputable abbrev F_ref03_Fe : Func := Try.f59
theorem h_ref03_Fe : Try.prog.funcs[f_ref03_Fe]? = some F_ref03_Fe := Try.func59
abbrev f_fe_minus : Nat := 60
noncomputable abbrev F_fe_minus : Func := Try.f60
theorem h_fe_minus : Try.prog.funcs[f_fe_minus]? = some F_fe_minus := Try.func60
abbrev f_fe_prime : Nat := 61
noncomputable abbrev F_fe_prime : Func := Try.f61
theorem h_fe_prime : Try.prog.funcs[f_fe_prime]? = some F_fe_prime := Try.func61
abbrev f_fe_times : Nat := 62
noncomputable abbrev F_fe_times : Func := Try.f62
theorem h_fe_times : Try.prog.funcs[f_fe_times]? = some F_fe_times := Try.func62
abbrev f_bits_Mul64 : Nat := 63
noncomputable abbrev F_bits_Mul64 : Func := Try.f63
theorem h_bits_Mul64 : Try.prog.funcs[f_bits_Mul64]? = some F_bits_Mul64 := Try.func63
abbrev f_fe_plus : Nat := 64
noncomputable abbrev F_fe_plus : Func := Try.f64
theorem h_fe_plus : Try.prog.funcs[f_fe_plus]? = some F_fe_plus := Try.func64
abbrev f_curve_seven : Nat := 65
noncomputable abbrev F_curve_seven : Func := Try.f65
theorem h_curve_seven : Try.prog.funcs[f_curve_seven]? = some F_curve_seven := Try.func65
abbrev f_fe_power : Nat := 66
noncomputable abbrev F_fe_power : Func := Try.f66
theorem h_fe_power : Try.prog.funcs[f_fe_power]? = some F_fe_power := Try.func66
abbrev f_ref03_Sub : Nat := 67
noncomputable abbrev F_ref03_Sub : Func := Try.f67
theorem h_ref03_Sub : Try.prog.funcs[f_ref03_Sub]? = some F_ref03_Sub := Try.func67
abbrev f_ref03_Add : Nat := 68
noncomputable abbrev F_ref03_Add : Func := Try.f68
theorem h_ref03_Add : Try.prog.funcs[f_ref03_Add]? = some F_ref03_Add := Try.func68
abbrev f_scalar_minus : Nat := 69
noncomputable abbrev F_scalar_minus : Func := Try.f69
theorem h_scalar_minus : Try.prog.funcs[f_scalar_minus]? = some F_scalar_minus := Try.func69
abbrev f_scalar_order : Nat := 70
noncomputable abbrev F_scalar_order : Func := Try.f70
theorem h_scalar_order : Try.prog.funcs[f_scalar_order]? = some F_scalar_order := Try.func70
abbrev f_ref03_Right : Nat := 71
noncomputable abbrev F_ref03_Right : Func := Try.f71
theorem h_ref03_Right : Try.prog.funcs[f_ref03_Right]? = some F_ref03_Right := Try.func71
abbrev f_ref05_cube : Nat := 72
noncomputable abbrev F_ref05_cube : Func := Try.f72
theorem h_ref05_cube : Try.prog.funcs[f_ref05_cube]? = some F_ref05_cube := Try.func72
abbrev f_bits_Sub64 : Nat := 73
noncomputable abbrev F_bits_Sub64 : Func := Try.f73
theorem h_bits_Sub64 : Try.prog.funcs[f_bits_Sub64]? = some F_bits_Sub64 := Try.func73
abbrev f_bits_Add64 : Nat := 74
noncomputable abbrev F_bits_Add64 : Func := Try.f74
theorem h_bits_Add64 : Try.prog.funcs[f_bits_Add64]? = some F_bits_Add64 := Try.func74
abbrev f_ref03_fold : Nat := 75
noncomputable abbrev F_ref03_fold : Func := Try.f75
theorem h_ref03_fold : Try.prog.funcs[f_ref03_fold]? = some F_ref03_fold := Try.func75
abbrev f_ref03_Neg : Nat := 76
noncomputable abbrev F_ref03_Neg : Func := Try.f76
theorem h_ref03_Neg : Try.prog.funcs[f_ref03_Neg]? = some F_ref03_Neg := Try.func76
abbrev t_int : Nat := 3
abbrev t_bool : Nat := 4
abbrev t_uint8 : Nat := 5
abbrev t_string : Nat := 9
abbrev t_s_api_Point : Nat := 22
abbrev t_s_api_Term : Nat := 25
abbrev t_uint64 : Nat := 26
abbrev t_a4_uint64 : Nat := 27
abbrev t_api_Fe : Nat := 28
abbrev t_api_Point : Nat := 30
abbrev t_api_Scalar : Nat := 40
abbrev t_curve_far : Nat := 46
abbrev t_api_Term : Nat := 50
abbrev t_tollhouseref03_Num : Nat := 53
abbrev t_a3_uint64 : Nat := 55
abbrev t_tollhouseref03_Mod : Nat := 57
abbrev t_tollhouseref05_jac : Nat := 62
abbrev t_a16_curve_far : Nat := 71
abbrev t_a8_uint64 : Nat := 80
abbrev t_s_uint64 : Nat := 83
abbrev t_uint32 : Nat := 101
def prim0 : Nat → Option Prim
  | 74 => some .add64
  | 73 => some .sub64
  | _ => none
def prim1 : Nat → Option Prim
  | 74 => some .add64
  | 73 => some .sub64
  | 63 => some .mul64
  | _ => none
def rd : Nat → Bool
  | _ => true
def hk : Nat → Nat
  | 3 => 1
  | 4 => 1
  | 6 => 1
  | 7 => 1
  | 9 => 1
  | 10 => 1
  | 11 => 1
  | 12 => 1
  | 13 => 1
  | 26 => 1
  | 77 => 1
  | 79 => 1
  | 80 => 1
  | 81 => 1
  | 82 => 1
  | 83 => 1
  | 84 => 1
  | 85 => 1
  | 86 => 1
  | 87 => 1
  | 88 => 1
  | 89 => 1
  | 90 => 1
  | 91 => 1
  | 92 => 1
  | _ => 0
noncomputable def HHo (A : Hv.Base) (ord : Nat → Option (List Nat)) : Hv.Cfg := ⟨Try.prog, A, TT, prim1, hk, ord⟩
noncomputable abbrev HH (A : Hv.Base) : Hv.Cfg := HHo A (fun _ => none)
noncomputable def G0 (W0 : World) : Cfg := ⟨Try.prog, W0, TT, prim0, rd⟩
noncomputable def GG (W0 : World) : Cfg := ⟨Try.prog, W0, TT, prim1, rd⟩
theorem row2 : RowOk Try.prog 2 ⟨false, 1, [.int .i64 0], false, .int .i64⟩ :=
  ⟨by kernel_rfl, by kernel_rfl, by kernel_rfl, by kernel_rfl, (show Try.prog.underlying 2 = some (.int .i64) by kernel_rfl), fun h => by cases h⟩
theorem row3 : RowOk Try.prog 3 ⟨false, 1, [.int .i64 0], false, .int .i64⟩ :=
  ⟨by kernel_rfl, by kernel_rfl, by kernel_rfl, by kernel_rfl, (show Try.prog.underlying 3 = some (.int .i64) by kernel_rfl), fun h => by cases h⟩
theorem row4 : RowOk Try.prog 4 ⟨false, 1, [.bool false], false, .bool⟩ :=
  ⟨by kernel_rfl, by kernel_rfl, by kernel_rfl, by kernel_rfl, (show Try.prog.underlying 4 = some (.bool) by kernel_rfl), fun h => by cases h⟩
theorem row5 : RowOk Try.prog 5 ⟨false, 1, [.int .u8 0], false, .int .u8⟩ :=
  ⟨by kernel_rfl, by kernel_rfl, by kernel_rfl, by kernel_rfl, (show Try.prog.underlying 5 = some (.int .u8) by kernel_rfl), fun h => by cases h⟩
theorem row9 : RowOk Try.prog 9 ⟨false, 1, [.str ByteArray.empty], false, .string⟩ :=
  ⟨by kernel_rfl, by kernel_rfl, by kernel_rfl, by kernel_rfl, (show Try.prog.underlying 9 = some (.string) by kernel_rfl), fun h => by cases h⟩
theorem row22 : RowOk Try.prog 22 ⟨false, 1, [.slice none 0 0], false, .slice 30 9 72 true⟩ :=
  ⟨by kernel_rfl, by kernel_rfl, by kernel_rfl, by kernel_rfl, kSlice (by kernel_rfl), fun h => by cases h⟩
theorem row25 : RowOk Try.prog 25 ⟨false, 1, [.slice none 0 0], false, .slice 50 13 104 true⟩ :=
  ⟨by kernel_rfl, by kernel_rfl, by kernel_rfl, by kernel_rfl, kSlice (by kernel_rfl), fun h => by cases h⟩
theorem row26 : RowOk Try.prog 26 ⟨false, 1, [.int .u64 0], false, .int .u64⟩ :=
  ⟨by kernel_rfl, by kernel_rfl, by kernel_rfl, by kernel_rfl, (show Try.prog.underlying 26 = some (.int .u64) by kernel_rfl), fun h => by cases h⟩
theorem row27 : RowOk Try.prog 27 ⟨true, 4, [.int .u64 0, .int .u64 0, .int .u64 0, .int .u64 0], true, .array 4 1 false⟩ :=
  ⟨by kernel_rfl, by kernel_rfl, by kernel_rfl, by kernel_rfl, kArray (by kernel_rfl), fun _ => eqRow_of (ks := [some .u64, some .u64, some .u64, some .u64]) (D := 12) (by decide) (by kernel_rfl) (by kernel_rfl) (by kernel_rfl) (by kernel_rfl)⟩
theorem row28 : RowOk Try.prog 28 ⟨true, 4, [.int .u64 0, .int .u64 0, .int .u64 0, .int .u64 0], true, .array 4 1 false⟩ :=
  ⟨by kernel_rfl, by kernel_rfl, by kernel_rfl, by kernel_rfl, kArray (by kernel_rfl), fun _ => eqRow_of (ks := [some .u64, some .u64, some .u64, some .u64]) (D := 12) (by decide) (by kernel_rfl) (by kernel_rfl) (by kernel_rfl) (by kernel_rfl)⟩
theorem row29 : RowOk Try.prog 29 ⟨true, 9, [.int .u64 0, .int .u64 0, .int .u64 0, .int .u64 0, .int .u64 0, .int .u64 0, .int .u64 0, .int .u64 0, .bool false], true, .struct [(0, 4, true), (4, 4, true), (8, 1, false)]⟩ :=
  ⟨by kernel_rfl, by kernel_rfl, by kernel_rfl, by kernel_rfl, kStruct (by kernel_rfl), fun _ => eqRow_of (ks := [some .u64, some .u64, some .u64, some .u64, some .u64, some .u64, some .u64, some .u64, none]) (D := 12) (by decide) (by kernel_rfl) (by kernel_rfl) (by kernel_rfl) (by kernel_rfl)⟩
theorem row30 : RowOk Try.prog 30 ⟨true, 9, [.int .u64 0, .int .u64 0, .int .u64 0, .int .u64 0, .int .u64 0, .int .u64 0, .int .u64 0, .int .u64 0, .bool false], true, .struct [(0, 4, true), (4, 4, true), (8, 1, false)]⟩ :=
  ⟨by kernel_rfl, by kernel_rfl, by kernel_rfl, by kernel_rfl, kStruct (by kernel_rfl), fun _ => eqRow_of (ks := [some .u64, some .u64, some .u64, some .u64, some .u64, some .u64, some .u64, some .u64, none]) (D := 12) (by decide) (by kernel_rfl) (by kernel_rfl) (by kernel_rfl) (by kernel_rfl)⟩
theorem row40 : RowOk Try.prog 40 ⟨true, 4, [.int .u64 0, .int .u64 0, .int .u64 0, .int .u64 0], true, .array 4 1 false⟩ :=
  ⟨by kernel_rfl, by kernel_rfl, by kernel_rfl, by kernel_rfl, kArray (by kernel_rfl), fun _ => eqRow_of (ks := [some .u64, some .u64, some .u64, some .u64]) (D := 12) (by decide) (by kernel_rfl) (by kernel_rfl) (by kernel_rfl) (by kernel_rfl)⟩
theorem row45 : RowOk Try.prog 45 ⟨true, 12, List.replicate 12 (.int .u64 0), true, .struct [(0, 4, true), (4, 4, true), (8, 4, true)]⟩ :=
  ⟨by kernel_rfl, by kernel_rfl, by kernel_rfl, by kernel_rfl, kStruct (by kernel_rfl), fun _ => eqRow_of (ks := List.replicate 12 (some .u64)) (D := 12) (by decide) (by kernel_rfl) (by kernel_rfl) (by kernel_rfl) (by kernel_rfl)⟩
theorem row46 : RowOk Try.prog 46 ⟨true, 12, List.replicate 12 (.int .u64 0), true, .struct [(0, 4, true), (4, 4, true), (8, 4, true)]⟩ :=
  ⟨by kernel_rfl, by kernel_rfl, by kernel_rfl, by kernel_rfl, kStruct (by kernel_rfl), fun _ => eqRow_of (ks := List.replicate 12 (some .u64)) (D := 12) (by decide) (by kernel_rfl) (by kernel_rfl) (by kernel_rfl) (by kernel_rfl)⟩
theorem row49 : RowOk Try.prog 49 ⟨true, 13, [.int .u64 0, .int .u64 0, .int .u64 0, .int .u64 0, .int .u64 0, .int .u64 0, .int .u64 0, .int .u64 0, .int .u64 0, .int .u64 0, .int .u64 0, .int .u64 0, .bool false], true, .struct [(0, 4, true), (4, 9, true)]⟩ :=
  ⟨by kernel_rfl, by kernel_rfl, by kernel_rfl, by kernel_rfl, kStruct (by kernel_rfl), fun _ => eqRow_of (ks := [some .u64, some .u64, some .u64, some .u64, some .u64, some .u64, some .u64, some .u64, some .u64, some .u64, some .u64, some .u64, none]) (D := 12) (by decide) (by kernel_rfl) (by kernel_rfl) (by kernel_rfl) (by kernel_rfl)⟩
theorem row50 : RowOk Try.prog 50 ⟨true, 13, [.int .u64 0, .int .u64 0, .int .u64 0, .int .u64 0, .int .u64 0, .int .u64 0, .int .u64 0, .int .u64 0, .int .u64 0, .int .u64 0, .int .u64 0, .int .u64 0, .bool false], true, .struct [(0, 4, true), (4, 9, true)]⟩ :=
  ⟨by kernel_rfl, by kernel_rfl, by kernel_rfl, by kernel_rfl, kStruct (by kernel_rfl), fun _ => eqRow_of (ks := [some .u64, some .u64, some .u64, some .u64, some .u64, some .u64, some .u64, some .u64, some .u64, some .u64, some .u64, some .u64, none]) (D := 12) (by decide) (by kernel_rfl) (by kernel_rfl) (by kernel_rfl) (by kernel_rfl)⟩
theorem row53 : RowOk Try.prog 53 ⟨true, 4, [.int .u64 0, .int .u64 0, .int .u64 0, .int .u64 0], true, .array 4 1 false⟩ :=
  ⟨by kernel_rfl, by kernel_rfl, by kernel_rfl, by kernel_rfl, kArray (by kernel_rfl), fun _ => eqRow_of (ks := [some .u64, some .u64, some .u64, some .u64]) (D := 12) (by decide) (by kernel_rfl) (by kernel_rfl) (by kernel_rfl) (by kernel_rfl)⟩
theorem row55 : RowOk Try.prog 55 ⟨true, 3, [.int .u64 0, .int .u64 0, .int .u64 0], true, .array 3 1 false⟩ :=
  ⟨by kernel_rfl, by kernel_rfl, by kernel_rfl, by kernel_rfl, kArray (by kernel_rfl), fun _ => eqRow_of (ks := [some .u64, some .u64, some .u64]) (D := 12) (by decide) (by kernel_rfl) (by kernel_rfl) (by kernel_rfl) (by kernel_rfl)⟩
theorem row56 : RowOk Try.prog 56 ⟨true, 7, List.replicate 7 (.int .u64 0), true, .struct [(0, 4, true), (4, 3, true)]⟩ :=
  ⟨by kernel_rfl, by kernel_rfl, by kernel_rfl, by kernel_rfl, kStruct (by kernel_rfl), fun _ => eqRow_of (ks := List.replicate 7 (some .u64)) (D := 12) (by decide) (by kernel_rfl) (by kernel_rfl) (by kernel_rfl) (by kernel_rfl)⟩
theorem row57 : RowOk Try.prog 57 ⟨true, 7, List.replicate 7 (.int .u64 0), true, .struct [(0, 4, true), (4, 3, true)]⟩ :=
  ⟨by kernel_rfl, by kernel_rfl, by kernel_rfl, by kernel_rfl, kStruct (by kernel_rfl), fun _ => eqRow_of (ks := List.replicate 7 (some .u64)) (D := 12) (by decide) (by kernel_rfl) (by kernel_rfl) (by kernel_rfl) (by kernel_rfl)⟩
theorem row61 : RowOk Try.prog 61 ⟨true, 12, List.replicate 12 (.int .u64 0), true, .struct [(0, 4, true), (4, 4, true), (8, 4, true)]⟩ :=
  ⟨by kernel_rfl, by kernel_rfl, by kernel_rfl, by kernel_rfl, kStruct (by kernel_rfl), fun _ => eqRow_of (ks := List.replicate 12 (some .u64)) (D := 12) (by decide) (by kernel_rfl) (by kernel_rfl) (by kernel_rfl) (by kernel_rfl)⟩
theorem row62 : RowOk Try.prog 62 ⟨true, 12, List.replicate 12 (.int .u64 0), true, .struct [(0, 4, true), (4, 4, true), (8, 4, true)]⟩ :=
  ⟨by kernel_rfl, by kernel_rfl, by kernel_rfl, by kernel_rfl, kStruct (by kernel_rfl), fun _ => eqRow_of (ks := List.replicate 12 (some .u64)) (D := 12) (by decide) (by kernel_rfl) (by kernel_rfl) (by kernel_rfl) (by kernel_rfl)⟩
theorem row71 : RowOk Try.prog 71 ⟨true, 192, List.replicate 192 (.int .u64 0), true, .array 16 12 true⟩ :=
  ⟨by kernel_rfl, by kernel_rfl, by kernel_rfl, by kernel_rfl, kArray (by kernel_rfl), fun _ => eqRow_of (ks := List.replicate 192 (some .u64)) (D := 12) (by decide) (by kernel_rfl) (by kernel_rfl) (by kernel_rfl) (by kernel_rfl)⟩
theorem row80 : RowOk Try.prog 80 ⟨true, 8, List.replicate 8 (.int .u64 0), true, .array 8 1 false⟩ :=
  ⟨by kernel_rfl, by kernel_rfl, by kernel_rfl, by kernel_rfl, kArray (by kernel_rfl), fun _ => eqRow_of (ks := List.replicate 8 (some .u64)) (D := 12) (by decide) (by kernel_rfl) (by kernel_rfl) (by kernel_rfl) (by kernel_rfl)⟩
theorem row83 : RowOk Try.prog 83 ⟨false, 1, [.slice none 0 0], false, .slice 26 1 8 false⟩ :=
  ⟨by kernel_rfl, by kernel_rfl, by kernel_rfl, by kernel_rfl, kSlice (by kernel_rfl), fun h => by cases h⟩
theorem row93 : RowOk Try.prog 93 ⟨false, 1, [.int .u64 0], false, .int .u64⟩ :=
  ⟨by kernel_rfl, by kernel_rfl, by kernel_rfl, by kernel_rfl, (show Try.prog.underlying 93 = some (.int .u64) by kernel_rfl), fun h => by cases h⟩
theorem row95 : RowOk Try.prog 95 ⟨true, 4, [.ptr none, .ptr none, .ptr none, .str ByteArray.empty], false, .struct [(0, 1, false), (1, 1, false), (2, 1, false), (3, 1, false)]⟩ :=
  ⟨by kernel_rfl, by kernel_rfl, by kernel_rfl, by kernel_rfl, kStruct (by kernel_rfl), fun h => by cases h⟩
theorem row96 : RowOk Try.prog 96 ⟨true, 4, [.ptr none, .ptr none, .ptr none, .str ByteArray.empty], false, .struct [(0, 1, false), (1, 1, false), (2, 1, false), (3, 1, false)]⟩ :=
  ⟨by kernel_rfl, by kernel_rfl, by kernel_rfl, by kernel_rfl, kStruct (by kernel_rfl), fun h => by cases h⟩
theorem row97 : RowOk Try.prog 97 ⟨true, 0, [], false, .array 0 1 false⟩ :=
  ⟨by kernel_rfl, by kernel_rfl, by kernel_rfl, by kernel_rfl, kArray (by kernel_rfl), fun h => by cases h⟩
theorem row101 : RowOk Try.prog 101 ⟨false, 1, [.int .u32 0], false, .int .u32⟩ :=
  ⟨by kernel_rfl, by kernel_rfl, by kernel_rfl, by kernel_rfl, (show Try.prog.underlying 101 = some (.int .u32) by kernel_rfl), fun h => by cases h⟩
theorem row102 : RowOk Try.prog 102 ⟨false, 1, [.int .u8 0], false, .int .u8⟩ :=
  ⟨by kernel_rfl, by kernel_rfl, by kernel_rfl, by kernel_rfl, (show Try.prog.underlying 102 = some (.int .u8) by kernel_rfl), fun h => by cases h⟩
theorem row103 : RowOk Try.prog 103 ⟨false, 1, [.int .u8 0], false, .int .u8⟩ :=
  ⟨by kernel_rfl, by kernel_rfl, by kernel_rfl, by kernel_rfl, (show Try.prog.underlying 103 = some (.int .u8) by kernel_rfl), fun h => by cases h⟩
theorem row105 : RowOk Try.prog 105 ⟨false, 1, [.ptr none], false, .other⟩ :=
  ⟨by kernel_rfl, by kernel_rfl, by kernel_rfl, by kernel_rfl, trivial, fun h => by cases h⟩
theorem row106 : RowOk Try.prog 106 ⟨false, 1, [.int .i32 0], false, .int .i32⟩ :=
  ⟨by kernel_rfl, by kernel_rfl, by kernel_rfl, by kernel_rfl, (show Try.prog.underlying 106 = some (.int .i32) by kernel_rfl), fun h => by cases h⟩
theorem row107 : RowOk Try.prog 107 ⟨false, 1, [.int .i32 0], false, .int .i32⟩ :=
  ⟨by kernel_rfl, by kernel_rfl, by kernel_rfl, by kernel_rfl, (show Try.prog.underlying 107 = some (.int .i32) by kernel_rfl), fun h => by cases h⟩
theorem row108 : RowOk Try.prog 108 ⟨true, 11, [.int .u64 0, .int .u64 0, .int .u32 0, .int .u8 0, .int .u8 0, .int .u8 0, .int .u8 0, .raw .nilFunc, .ptr none, .int .i32 0, .int .i32 0], false, .struct [(0, 1, false), (1, 1, false), (2, 1, false), (3, 1, false), (4, 1, false), (5, 1, false), (6, 1, false), (7, 1, false), (8, 1, false), (9, 1, false), (10, 1, false)]⟩ :=
  ⟨by kernel_rfl, by kernel_rfl, by kernel_rfl, by kernel_rfl, kStruct (by kernel_rfl), fun h => by cases h⟩
theorem row109 : RowOk Try.prog 109 ⟨true, 11, [.int .u64 0, .int .u64 0, .int .u32 0, .int .u8 0, .int .u8 0, .int .u8 0, .int .u8 0, .raw .nilFunc, .ptr none, .int .i32 0, .int .i32 0], false, .struct [(0, 1, false), (1, 1, false), (2, 1, false), (3, 1, false), (4, 1, false), (5, 1, false), (6, 1, false), (7, 1, false), (8, 1, false), (9, 1, false), (10, 1, false)]⟩ :=
  ⟨by kernel_rfl, by kernel_rfl, by kernel_rfl, by kernel_rfl, kStruct (by kernel_rfl), fun h => by cases h⟩
theorem tysOk : TysOk Try.prog TT := tysOk_of (by
  unfold TT
  simp only [List.forall_mem_cons]
  exact ⟨row2, row3, row4, row5, row9, row22, row25, row26, row27, row28, row29, row30, row40, row45, row46, row49, row50, row53, row55, row56, row57, row61, row62, row71, row80, row83, row93, row95, row96, row97, row101, row102, row103, row105, row106, row107, row108, row109, fun _ h => by cases h⟩)
theorem p_add64 (W0 : World) : PrimOk Try.prog W0 74 .add64 := primOk_add64 Try.func74 (by kernel_rfl) (by kernel_rfl) (by kernel_rfl) (by kernel_rfl)
theorem p_sub64 (W0 : World) : PrimOk Try.prog W0 73 .sub64 := primOk_sub64 Try.func73 (by kernel_rfl) (by kernel_rfl) (by kernel_rfl) (by kernel_rfl)
theorem g0Ok (W0 : World) : CfgOk (G0 W0) := ⟨tysOk, (fun f p h => by
  change prim0 f = some p at h
  unfold prim0 at h
  split at h
  · simp only [Option.some.injEq] at h; subst h; exact p_add64 W0
  · simp only [Option.some.injEq] at h; subst h; exact p_sub64 W0
  · cases h), by kernel_rfl⟩
theorem hhOk (hm : ∀ W0, PrimOk Try.prog W0 63 .mul64) (A : Hv.Base) (ord : Nat → Option (List Nat)) : Hv.CfgOk (HHo A ord) := ⟨tysOk, (fun f p h W0 => by
  change prim1 f = some p at h
  unfold prim1 at h
  split at h
  · simp only [Option.some.injEq] at h; subst h; exact p_add64 W0
  · simp only [Option.some.injEq] at h; subst h; exact p_sub64 W0
  · simp only [Option.some.injEq] at h; subst h; exact hm W0
  · cases h), by kernel_rfl⟩
theorem ggOk (hm : ∀ W0, PrimOk Try.prog W0 63 .mul64) (W0 : World) : CfgOk (GG W0) := ⟨tysOk, (fun f p h => by
  change prim1 f = some p at h
  unfold prim1 at h
  split at h
  · simp only [Option.some.injEq] at h; subst h; exact p_add64 W0
  · simp only [Option.some.injEq] at h; subst h; exact p_sub64 W0
  · simp only [Option.some.injEq] at h; subst h; exact hm W0
  · cases h), by kernel_rfl⟩
end Go.Ev
