/- The types of this seat's program as the walk asks for them, each held against the program; its functions' numbers by their names. Written by a program of this session (tools/tys.py). -/
import Derived.Test.YtejopcfkipeegaaEvA
import Derived.Test.YtejopcfkipeegaaHvA
import Derived.Test.YtejopcfkipeegaaChecked
namespace Go.Ev
open Go.Proofs
def TT : Tys := [
  (2, ⟨false, 1, [.int .i64 0], false, .int .i64⟩),
  (3, ⟨false, 1, [.int .i64 0], false, .int .i64⟩),
  (4, ⟨false, 1, [.bool false], false, .bool⟩),
  (5, ⟨false, 1, [.int .u8 0], false, .int .u8⟩),
  (9, ⟨false, 1, [.str ByteArray.empty], false, .string⟩),
  (22, ⟨false, 1, [.int .u64 0], false, .int .u64⟩),
  (23, ⟨true, 4, [.int .u64 0, .int .u64 0, .int .u64 0, .int .u64 0], true, .array 4 1 false⟩),
  (24, ⟨true, 4, [.int .u64 0, .int .u64 0, .int .u64 0, .int .u64 0], true, .array 4 1 false⟩),
  (25, ⟨true, 9, [.int .u64 0, .int .u64 0, .int .u64 0, .int .u64 0, .int .u64 0, .int .u64 0, .int .u64 0, .int .u64 0, .bool false], true, .struct [(0, 4, true), (4, 4, true), (8, 1, false)]⟩),
  (26, ⟨true, 9, [.int .u64 0, .int .u64 0, .int .u64 0, .int .u64 0, .int .u64 0, .int .u64 0, .int .u64 0, .int .u64 0, .bool false], true, .struct [(0, 4, true), (4, 4, true), (8, 1, false)]⟩),
  (34, ⟨true, 4, [.int .u64 0, .int .u64 0, .int .u64 0, .int .u64 0], true, .array 4 1 false⟩),
  (37, ⟨true, 18, [.int .u64 0, .int .u64 0, .int .u64 0, .int .u64 0, .int .u64 0, .int .u64 0, .int .u64 0, .int .u64 0, .bool false, .int .u64 0, .int .u64 0, .int .u64 0, .int .u64 0, .int .u64 0, .int .u64 0, .int .u64 0, .int .u64 0, .bool false], true, .array 2 9 true⟩),
  (40, ⟨true, 32, List.replicate 32 (.int .u8 0), true, .array 32 1 false⟩),
  (41, ⟨true, 32, List.replicate 32 (.int .u8 0), true, .array 32 1 false⟩),
  (45, ⟨false, 1, [.slice none 0 0], false, .slice 26 9 72 true⟩),
  (46, ⟨false, 1, [.slice none 0 0], false, .slice 93 13 104 true⟩),
  (54, ⟨false, 1, [.slice none 0 0], false, .slice 5 1 1 false⟩),
  (55, ⟨true, 33, List.replicate 33 (.int .u8 0), true, .array 33 1 false⟩),
  (63, ⟨true, 4, [.int .u64 0, .int .u64 0, .int .u64 0, .int .u64 0], true, .array 4 1 false⟩),
  (65, ⟨true, 3, [.int .u64 0, .int .u64 0, .int .u64 0], true, .array 3 1 false⟩),
  (66, ⟨true, 7, List.replicate 7 (.int .u64 0), true, .struct [(0, 4, true), (4, 3, true)]⟩),
  (67, ⟨true, 7, List.replicate 7 (.int .u64 0), true, .struct [(0, 4, true), (4, 3, true)]⟩),
  (74, ⟨true, 12, List.replicate 12 (.int .u64 0), true, .struct [(0, 4, true), (4, 4, true), (8, 4, true)]⟩),
  (75, ⟨true, 12, List.replicate 12 (.int .u64 0), true, .struct [(0, 4, true), (4, 4, true), (8, 4, true)]⟩),
  (80, ⟨true, 12, List.replicate 12 (.int .u64 0), true, .struct [(0, 4, true), (4, 4, true), (8, 4, true)]⟩),
  (81, ⟨true, 12, List.replicate 12 (.int .u64 0), true, .struct [(0, 4, true), (4, 4, true), (8, 4, true)]⟩),
  (92, ⟨true, 13, [.int .u64 0, .int .u64 0, .int .u64 0, .int .u64 0, .int .u64 0, .int .u64 0, .int .u64 0, .int .u64 0, .int .u64 0, .int .u64 0, .int .u64 0, .int .u64 0, .bool false], true, .struct [(0, 4, true), (4, 9, true)]⟩),
  (93, ⟨true, 13, [.int .u64 0, .int .u64 0, .int .u64 0, .int .u64 0, .int .u64 0, .int .u64 0, .int .u64 0, .int .u64 0, .int .u64 0, .int .u64 0, .int .u64 0, .int .u64 0, .bool false], true, .struct [(0, 4, true), (4, 9, true)]⟩),
  (101, ⟨true, 8, List.replicate 8 (.int .u64 0), true, .array 8 1 false⟩),
  (104, ⟨false, 1, [.slice none 0 0], false, .slice 22 1 8 false⟩),
  (112, ⟨true, 192, List.replicate 192 (.int .u64 0), true, .array 16 12 true⟩),
  (116, ⟨false, 1, [.int .u64 0], false, .int .u64⟩),
  (122, ⟨true, 4, [.ptr none, .ptr none, .ptr none, .str ByteArray.empty], false, .struct [(0, 1, false), (1, 1, false), (2, 1, false), (3, 1, false)]⟩),
  (123, ⟨true, 4, [.ptr none, .ptr none, .ptr none, .str ByteArray.empty], false, .struct [(0, 1, false), (1, 1, false), (2, 1, false), (3, 1, false)]⟩),
  (124, ⟨true, 0, [], false, .array 0 1 false⟩),
  (128, ⟨false, 1, [.int .u32 0], false, .int .u32⟩),
  (129, ⟨false, 1, [.int .u8 0], false, .int .u8⟩),
  (130, ⟨false, 1, [.int .u8 0], false, .int .u8⟩),
  (132, ⟨false, 1, [.ptr none], false, .other⟩),
  (133, ⟨false, 1, [.int .i32 0], false, .int .i32⟩),
  (134, ⟨false, 1, [.int .i32 0], false, .int .i32⟩),
  (135, ⟨true, 11, [.int .u64 0, .int .u64 0, .int .u32 0, .int .u8 0, .int .u8 0, .int .u8 0, .int .u8 0, .raw .nilFunc, .ptr none, .int .i32 0, .int .i32 0], false, .struct [(0, 1, false), (1, 1, false), (2, 1, false), (3, 1, false), (4, 1, false), (5, 1, false), (6, 1, false), (7, 1, false), (8, 1, false), (9, 1, false), (10, 1, false)]⟩),
  (136, ⟨true, 11, [.int .u64 0, .int .u64 0, .int .u32 0, .int .u8 0, .int .u8 0, .int .u8 0, .int .u8 0, .raw .nilFunc, .ptr none, .int .i32 0, .int .i32 0], false, .struct [(0, 1, false), (1, 1, false), (2, 1, false), (3, 1, false), (4, 1, false), (5, 1, false), (6, 1, false), (7, 1, false), (8, 1, false), (9, 1, false), (10, 1, false)]⟩)]
noncomputable abbrev PG : Program := Try.prog
abbrev f_law05_CurveRights : Nat := 3
noncomputable abbrev F_law05_CurveRights : Func := Try.f3
theorem h_law05_CurveRights : Try.prog.funcs[f_law05_CurveRights]? = some F_law05_CurveRights := Try.func3
abbrev f_law05_CurveAdds : Nat := 4
noncomputable abbrev F_law05_CurveAdds : Func := Try.f4
theorem h_law05_CurveAdds : Try.prog.funcs[f_law05_CurveAdds]? = some F_law05_CurveAdds := Try.func4
abbrev f_law05_CurveLaws : Nat := 5
noncomputable abbrev F_law05_CurveLaws : Func := Try.f5
theorem h_law05_CurveLaws : Try.prog.funcs[f_law05_CurveLaws]? = some F_law05_CurveLaws := Try.func5
abbrev f_law05_CurveMuls : Nat := 6
noncomputable abbrev F_law05_CurveMuls : Func := Try.f6
theorem h_law05_CurveMuls : Try.prog.funcs[f_law05_CurveMuls]? = some F_law05_CurveMuls := Try.func6
abbrev f_law05_CurveSpreads : Nat := 7
noncomputable abbrev F_law05_CurveSpreads : Func := Try.f7
theorem h_law05_CurveSpreads : Try.prog.funcs[f_law05_CurveSpreads]? = some F_law05_CurveSpreads := Try.func7
abbrev f_law05_CurveLifts : Nat := 8
noncomputable abbrev F_law05_CurveLifts : Func := Try.f8
theorem h_law05_CurveLifts : Try.prog.funcs[f_law05_CurveLifts]? = some F_law05_CurveLifts := Try.func8
abbrev f_law05_CurveSums : Nat := 9
noncomputable abbrev F_law05_CurveSums : Func := Try.f9
theorem h_law05_CurveSums : Try.prog.funcs[f_law05_CurveSums]? = some F_law05_CurveSums := Try.func9
abbrev f_law05_CurveCodes : Nat := 10
noncomputable abbrev F_law05_CurveCodes : Func := Try.f10
theorem h_law05_CurveCodes : Try.prog.funcs[f_law05_CurveCodes]? = some F_law05_CurveCodes := Try.func10
abbrev f_law05_CurveBack : Nat := 11
noncomputable abbrev F_law05_CurveBack : Func := Try.f11
theorem h_law05_CurveBack : Try.prog.funcs[f_law05_CurveBack]? = some F_law05_CurveBack := Try.func11
abbrev f_law07_CommitBalanced : Nat := 12
noncomputable abbrev F_law07_CommitBalanced : Func := Try.f12
theorem h_law07_CommitBalanced : Try.prog.funcs[f_law07_CommitBalanced]? = some F_law07_CommitBalanced := Try.func12
abbrev f_law05_alive : Nat := 13
noncomputable abbrev F_law05_alive : Func := Try.f13
theorem h_law05_alive : Try.prog.funcs[f_law05_alive]? = some F_law05_alive := Try.func13
abbrev f_curve_Right : Nat := 14
noncomputable abbrev F_curve_Right : Func := Try.f14
theorem h_curve_Right : Try.prog.funcs[f_curve_Right]? = some F_curve_Right := Try.func14
abbrev f_ref05_Right : Nat := 15
noncomputable abbrev F_ref05_Right : Func := Try.f15
theorem h_ref05_Right : Try.prog.funcs[f_ref05_Right]? = some F_ref05_Right := Try.func15
abbrev f_curve_Neg : Nat := 16
noncomputable abbrev F_curve_Neg : Func := Try.f16
theorem h_curve_Neg : Try.prog.funcs[f_curve_Neg]? = some F_curve_Neg := Try.func16
abbrev f_ref05_Neg : Nat := 17
noncomputable abbrev F_ref05_Neg : Func := Try.f17
theorem h_ref05_Neg : Try.prog.funcs[f_ref05_Neg]? = some F_ref05_Neg := Try.func17
abbrev f_curve_Add : Nat := 18
noncomputable abbrev F_curve_Add : Func := Try.f18
theorem h_curve_Add : Try.prog.funcs[f_curve_Add]? = some F_curve_Add := Try.func18
abbrev f_ref05_Add : Nat := 19
noncomputable abbrev F_ref05_Add : Func := Try.f19
theorem h_ref05_Add : Try.prog.funcs[f_ref05_Add]? = some F_ref05_Add := Try.func19
abbrev f_curve_Zero : Nat := 20
noncomputable abbrev F_curve_Zero : Func := Try.f20
theorem h_curve_Zero : Try.prog.funcs[f_curve_Zero]? = some F_curve_Zero := Try.func20
abbrev f_curve_Mul : Nat := 21
noncomputable abbrev F_curve_Mul : Func := Try.f21
theorem h_curve_Mul : Try.prog.funcs[f_curve_Mul]? = some F_curve_Mul := Try.func21
abbrev f_ref05_Mul : Nat := 22
noncomputable abbrev F_ref05_Mul : Func := Try.f22
theorem h_ref05_Mul : Try.prog.funcs[f_ref05_Mul]? = some F_ref05_Mul := Try.func22
abbrev f_ref05_AddScalar : Nat := 23
noncomputable abbrev F_ref05_AddScalar : Func := Try.f23
theorem h_ref05_AddScalar : Try.prog.funcs[f_ref05_AddScalar]? = some F_ref05_AddScalar := Try.func23
abbrev f_ref05_MulScalar : Nat := 24
noncomputable abbrev F_ref05_MulScalar : Func := Try.f24
theorem h_ref05_MulScalar : Try.prog.funcs[f_ref05_MulScalar]? = some F_ref05_MulScalar := Try.func24
abbrev f_curve_Lift : Nat := 25
noncomputable abbrev F_curve_Lift : Func := Try.f25
theorem h_curve_Lift : Try.prog.funcs[f_curve_Lift]? = some F_curve_Lift := Try.func25
abbrev f_ref05_Lift : Nat := 26
noncomputable abbrev F_ref05_Lift : Func := Try.f26
theorem h_ref05_Lift : Try.prog.funcs[f_ref05_Lift]? = some F_ref05_Lift := Try.func26
abbrev f_curve_Sum : Nat := 27
noncomputable abbrev F_curve_Sum : Func := Try.f27
theorem h_curve_Sum : Try.prog.funcs[f_curve_Sum]? = some F_curve_Sum := Try.func27
abbrev f_slices_Values___api_Point_api_Point_ : Nat := 28
noncomputable abbrev F_slices_Values___api_Point_api_Point_ : Func := Try.f28
theorem h_slices_Values___api_Point_api_Point_ : Try.prog.funcs[f_slices_Values___api_Point_api_Point_]? = some F_slices_Values___api_Point_api_Point_ := Try.func28
abbrev f_ref05_Sum : Nat := 29
noncomputable abbrev F_ref05_Sum : Func := Try.f29
theorem h_ref05_Sum : Try.prog.funcs[f_ref05_Sum]? = some F_ref05_Sum := Try.func29
abbrev f_curve_Multi : Nat := 30
noncomputable abbrev F_curve_Multi : Func := Try.f30
theorem h_curve_Multi : Try.prog.funcs[f_curve_Multi]? = some F_curve_Multi := Try.func30
abbrev f_ref05_Multi : Nat := 31
noncomputable abbrev F_ref05_Multi : Func := Try.f31
theorem h_ref05_Multi : Try.prog.funcs[f_ref05_Multi]? = some F_ref05_Multi := Try.func31
abbrev f_curve_Encode : Nat := 32
noncomputable abbrev F_curve_Encode : Func := Try.f32
theorem h_curve_Encode : Try.prog.funcs[f_curve_Encode]? = some F_curve_Encode := Try.func32
abbrev f_ref05_Encode : Nat := 33
noncomputable abbrev F_ref05_Encode : Func := Try.f33
theorem h_ref05_Encode : Try.prog.funcs[f_ref05_Encode]? = some F_ref05_Encode := Try.func33
abbrev f_curve_Decode : Nat := 34
noncomputable abbrev F_curve_Decode : Func := Try.f34
theorem h_curve_Decode : Try.prog.funcs[f_curve_Decode]? = some F_curve_Decode := Try.func34
abbrev f_ref05_Decode : Nat := 35
noncomputable abbrev F_ref05_Decode : Func := Try.f35
theorem h_ref05_Decode : Try.prog.funcs[f_ref05_Decode]? = some F_ref05_Decode := Try.func35
abbrev f_ref05_Taken : Nat := 36
noncomputable abbrev F_ref05_Taken : Func := Try.f36
theorem h_ref05_Taken : Try.prog.funcs[f_ref05_Taken]? = some F_ref05_Taken := Try.func36
abbrev f_law07_alive : Nat := 37
noncomputable abbrev F_law07_alive : Func := Try.f37
theorem h_law07_alive : Try.prog.funcs[f_law07_alive]? = some F_law07_alive := Try.func37
abbrev f_commit_Balanced : Nat := 38
noncomputable abbrev F_commit_Balanced : Func := Try.f38
theorem h_commit_Balanced : Try.prog.funcs[f_commit_Balanced]? = some F_commit_Balanced := Try.func38
abbrev f_ref07_Balanced : Nat := 39
noncomputable abbrev F_ref07_Balanced : Func := Try.f39
theorem h_ref07_Balanced : Try.prog.funcs[f_ref07_Balanced]? = some F_ref07_Balanced := Try.func39
abbrev f_curve_Base : Nat := 40
noncomputable abbrev F_curve_Base : Func := Try.f40
theorem h_curve_Base : Try.prog.funcs[f_curve_Base]? = some F_curve_Base := Try.func40
abbrev f_ref05_Base : Nat := 41
noncomputable abbrev F_ref05_Base : Func := Try.f41
theorem h_ref05_Base : Try.prog.funcs[f_ref05_Base]? = some F_ref05_Base := Try.func41
abbrev f_fe_Norm : Nat := 42
noncomputable abbrev F_fe_Norm : Func := Try.f42
theorem h_fe_Norm : Try.prog.funcs[f_fe_Norm]? = some F_fe_Norm := Try.func42
abbrev f_fe_Mul : Nat := 43
noncomputable abbrev F_fe_Mul : Func := Try.f43
theorem h_fe_Mul : Try.prog.funcs[f_fe_Mul]? = some F_fe_Mul := Try.func43
abbrev f_curve_cube : Nat := 44
noncomputable abbrev F_curve_cube : Func := Try.f44
theorem h_curve_cube : Try.prog.funcs[f_curve_cube]? = some F_curve_cube := Try.func44
abbrev f_ref05_Zero : Nat := 45
noncomputable abbrev F_ref05_Zero : Func := Try.f45
theorem h_ref05_Zero : Try.prog.funcs[f_ref05_Zero]? = some F_ref05_Zero := Try.func45
abbrev f_ref03_Of : Nat := 46
noncomputable abbrev F_ref03_Of : Func := Try.f46
theorem h_ref03_Of : Try.prog.funcs[f_ref03_Of]? = some F_ref03_Of := Try.func46
abbrev f_ref03_P : Nat := 47
noncomputable abbrev F_ref03_P : Func := Try.f47
theorem h_ref03_P : Try.prog.funcs[f_ref03_P]? = some F_ref03_P := Try.func47
abbrev f_ref03_Right : Nat := 48
noncomputable abbrev F_ref03_Right : Func := Try.f48
theorem h_ref03_Right : Try.prog.funcs[f_ref03_Right]? = some F_ref03_Right := Try.func48
abbrev f_ref05_mul : Nat := 49
noncomputable abbrev F_ref05_mul : Func := Try.f49
theorem h_ref05_mul : Try.prog.funcs[f_ref05_mul]? = some F_ref05_mul := Try.func49
abbrev f_ref05_cube : Nat := 50
noncomputable abbrev F_ref05_cube : Func := Try.f50
theorem h_ref05_cube : Try.prog.funcs[f_ref05_cube]? = some F_ref05_cube := Try.func50
abbrev f_fe_Neg : Nat := 51
noncomputable abbrev F_fe_Neg : Func := Try.f51
theorem h_fe_Neg : Try.prog.funcs[f_fe_Neg]? = some F_fe_Neg := Try.func51
abbrev f_ref05_point : Nat := 52
noncomputable abbrev F_ref05_point : Func := Try.f52
theorem h_ref05_point : Try.prog.funcs[f_ref05_point]? = some F_ref05_point := Try.func52
abbrev f_ref03_Neg : Nat := 53
noncomputable abbrev F_ref03_Neg : Func := Try.f53
theorem h_ref03_Neg : Try.prog.funcs[f_ref03_Neg]? = some F_ref03_Neg := Try.func53
abbrev f_curve_out : Nat := 54
noncomputable abbrev F_curve_out : Func := Try.f54
theorem h_curve_out : Try.prog.funcs[f_curve_out]? = some F_curve_out := Try.func54
abbrev f_curve_far_plus : Nat := 55
noncomputable abbrev F_curve_far_plus : Func := Try.f55
theorem h_curve_far_plus : Try.prog.funcs[f_curve_far_plus]? = some F_curve_far_plus := Try.func55
abbrev f_curve_far_home : Nat := 56
noncomputable abbrev F_curve_far_home : Func := Try.f56
theorem h_curve_far_home : Try.prog.funcs[f_curve_far_home]? = some F_curve_far_home := Try.func56
abbrev f_ref05_sub : Nat := 57
noncomputable abbrev F_ref05_sub : Func := Try.f57
theorem h_ref05_sub : Try.prog.funcs[f_ref05_sub]? = some F_ref05_sub := Try.func57
abbrev f_ref05_add : Nat := 58
noncomputable abbrev F_ref05_add : Func := Try.f58
theorem h_ref05_add : Try.prog.funcs[f_ref05_add]? = some F_ref05_add := Try.func58
abbrev f_ref03_Inv : Nat := 59
noncomputable abbrev F_ref03_Inv : Func := Try.f59
theorem h_ref03_Inv : Try.prog.funcs[f_ref03_Inv]? = some F_ref03_Inv := Try.func59
abbrev f_curve_far_times : Nat := 60
noncomputable abbrev F_curve_far_times : Func := Try.f60
theorem h_curve_far_times : Try.prog.funcs[f_curve_far_times]? = some F_curve_far_times := Try.func60
abbrev f_ref03_Norm : Nat := 61
noncomputable abbrev F_ref03_Norm : Func := Try.f61
theorem h_ref03_Norm : Try.prog.funcs[f_ref03_Norm]? = some F_ref03_Norm := Try.func61
abbrev f_ref03_N : Nat := 62
noncomputable abbrev F_ref03_N : Func := Try.f62
theorem h_ref03_N : Try.prog.funcs[f_ref03_N]? = some F_ref03_N := Try.func62
abbrev f_ref03_OfScalar : Nat := 63
noncomputable abbrev F_ref03_OfScalar : Func := Try.f63
theorem h_ref03_OfScalar : Try.prog.funcs[f_ref03_OfScalar]? = some F_ref03_OfScalar := Try.func63
abbrev f_ref05_twice : Nat := 64
noncomputable abbrev F_ref05_twice : Func := Try.f64
theorem h_ref05_twice : Try.prog.funcs[f_ref05_twice]? = some F_ref05_twice := Try.func64
abbrev f_ref05_plus : Nat := 65
noncomputable abbrev F_ref05_plus : Func := Try.f65
theorem h_ref05_plus : Try.prog.funcs[f_ref05_plus]? = some F_ref05_plus := Try.func65
abbrev f_ref03_Scalar : Nat := 66
noncomputable abbrev F_ref03_Scalar : Func := Try.f66
theorem h_ref03_Scalar : Try.prog.funcs[f_ref03_Scalar]? = some F_ref03_Scalar := Try.func66
abbrev f_ref03_Add : Nat := 67
noncomputable abbrev F_ref03_Add : Func := Try.f67
theorem h_ref03_Add : Try.prog.funcs[f_ref03_Add]? = some F_ref03_Add := Try.func67
abbrev f_ref03_Mul : Nat := 68
noncomputable abbrev F_ref03_Mul : Func := Try.f68
theorem h_ref03_Mul : Try.prog.funcs[f_ref03_Mul]? = some F_ref03_Mul := Try.func68
abbrev f_fe_Read : Nat := 69
noncomputable abbrev F_fe_Read : Func := Try.f69
theorem h_fe_Read : Try.prog.funcs[f_fe_Read]? = some F_fe_Read := Try.func69
abbrev f_fe_Sqrt : Nat := 70
noncomputable abbrev F_fe_Sqrt : Func := Try.f70
theorem h_fe_Sqrt : Try.prog.funcs[f_fe_Sqrt]? = some F_fe_Sqrt := Try.func70
abbrev f_ref03_Number : Nat := 71
noncomputable abbrev F_ref03_Number : Func := Try.f71
theorem h_ref03_Number : Try.prog.funcs[f_ref03_Number]? = some F_ref03_Number := Try.func71
abbrev f_ref03_Sqrt : Nat := 72
noncomputable abbrev F_ref03_Sqrt : Func := Try.f72
theorem h_ref03_Sqrt : Try.prog.funcs[f_ref03_Sqrt]? = some F_ref03_Sqrt := Try.func72
abbrev f_slices_Values___api_Point_api_Point__1 : Nat := 73
noncomputable abbrev F_slices_Values___api_Point_api_Point__1 : Func := Try.f73
theorem h_slices_Values___api_Point_api_Point__1 : Try.prog.funcs[f_slices_Values___api_Point_api_Point__1]? = some F_slices_Values___api_Point_api_Point__1 := Try.func73
abbrev f_fe_Odd : Nat := 74
noncomputable abbrev F_fe_Odd : Func := Try.f74
theorem h_fe_Odd : Try.prog.funcs[f_fe_Odd]? = some F_fe_Odd := Try.func74
abbrev f_fe_Bytes : Nat := 75
noncomputable abbrev F_fe_Bytes : Func := Try.f75
theorem h_fe_Bytes : Try.prog.funcs[f_fe_Bytes]? = some F_fe_Bytes := Try.func75
abbrev f_ref03_Bytes : Nat := 76
noncomputable abbrev F_ref03_Bytes : Func := Try.f76
theorem h_ref03_Bytes : Try.prog.funcs[f_ref03_Bytes]? = some F_ref03_Bytes := Try.func76
abbrev f_commit_Value : Nat := 77
noncomputable abbrev F_commit_Value : Func := Try.f77
theorem h_commit_Value : Try.prog.funcs[f_commit_Value]? = some F_commit_Value := Try.func77
abbrev f_fe_minus : Nat := 78
noncomputable abbrev F_fe_minus : Func := Try.f78
theorem h_fe_minus : Try.prog.funcs[f_fe_minus]? = some F_fe_minus := Try.func78
abbrev f_fe_prime : Nat := 79
noncomputable abbrev F_fe_prime : Func := Try.f79
theorem h_fe_prime : Try.prog.funcs[f_fe_prime]? = some F_fe_prime := Try.func79
abbrev f_fe_times : Nat := 80
noncomputable abbrev F_fe_times : Func := Try.f80
theorem h_fe_times : Try.prog.funcs[f_fe_times]? = some F_fe_times := Try.func80
abbrev f_bits_Mul64 : Nat := 81
noncomputable abbrev F_bits_Mul64 : Func := Try.f81
theorem h_bits_Mul64 : Try.prog.funcs[f_bits_Mul64]? = some F_bits_Mul64 := Try.func81
abbrev f_fe_plus : Nat := 82
noncomputable abbrev F_fe_plus : Func := Try.f82
theorem h_fe_plus : Try.prog.funcs[f_fe_plus]? = some F_fe_plus := Try.func82
abbrev f_fe_Add : Nat := 83
noncomputable abbrev F_fe_Add : Func := Try.f83
theorem h_fe_Add : Try.prog.funcs[f_fe_Add]? = some F_fe_Add := Try.func83
abbrev f_curve_seven : Nat := 84
noncomputable abbrev F_curve_seven : Func := Try.f84
theorem h_curve_seven : Try.prog.funcs[f_curve_seven]? = some F_curve_seven := Try.func84
abbrev f_ref03_below : Nat := 85
noncomputable abbrev F_ref03_below : Func := Try.f85
theorem h_ref03_below : Try.prog.funcs[f_ref03_below]? = some F_ref03_below := Try.func85
abbrev f_ref03_Small : Nat := 86
noncomputable abbrev F_ref03_Small : Func := Try.f86
theorem h_ref03_Small : Try.prog.funcs[f_ref03_Small]? = some F_ref03_Small := Try.func86
abbrev f_ref03_Fe : Nat := 87
noncomputable abbrev F_ref03_Fe : Func := Try.f87
theorem h_ref03_Fe : Try.prog.funcs[f_ref03_Fe]? = some F_ref03_Fe := Try.func87
abbrev f_ref03_minus : Nat := 88
noncomputable abbrev F_ref03_minus : Func := Try.f88
theorem h_ref03_minus : Try.prog.funcs[f_ref03_minus]? = some F_ref03_minus := Try.func88
abbrev f_fe_Of : Nat := 89
noncomputable abbrev F_fe_Of : Func := Try.f89
theorem h_fe_Of : Try.prog.funcs[f_fe_Of]? = some F_fe_Of := Try.func89
abbrev f_fe_Sub : Nat := 90
noncomputable abbrev F_fe_Sub : Func := Try.f90
theorem h_fe_Sub : Try.prog.funcs[f_fe_Sub]? = some F_fe_Sub := Try.func90
abbrev f_curve_far_twice : Nat := 91
noncomputable abbrev F_curve_far_twice : Func := Try.f91
theorem h_curve_far_twice : Try.prog.funcs[f_curve_far_twice]? = some F_curve_far_twice := Try.func91
abbrev f_fe_Inv : Nat := 92
noncomputable abbrev F_fe_Inv : Func := Try.f92
theorem h_fe_Inv : Try.prog.funcs[f_fe_Inv]? = some F_fe_Inv := Try.func92
abbrev f_ref03_Sub : Nat := 93
noncomputable abbrev F_ref03_Sub : Func := Try.f93
theorem h_ref03_Sub : Try.prog.funcs[f_ref03_Sub]? = some F_ref03_Sub := Try.func93
abbrev f_ref03_Power : Nat := 94
noncomputable abbrev F_ref03_Power : Func := Try.f94
theorem h_ref03_Power : Try.prog.funcs[f_ref03_Power]? = some F_ref03_Power := Try.func94
abbrev f_scalar_Norm : Nat := 95
noncomputable abbrev F_scalar_Norm : Func := Try.f95
theorem h_scalar_Norm : Try.prog.funcs[f_scalar_Norm]? = some F_scalar_Norm := Try.func95
abbrev f_bits_Add64 : Nat := 96
noncomputable abbrev F_bits_Add64 : Func := Try.f96
theorem h_bits_Add64 : Try.prog.funcs[f_bits_Add64]? = some F_bits_Add64 := Try.func96
abbrev f_ref03_fold : Nat := 97
noncomputable abbrev F_ref03_fold : Func := Try.f97
theorem h_ref03_fold : Try.prog.funcs[f_ref03_fold]? = some F_ref03_fold := Try.func97
abbrev f_fe_power : Nat := 98
noncomputable abbrev F_fe_power : Func := Try.f98
theorem h_fe_power : Try.prog.funcs[f_fe_power]? = some F_fe_power := Try.func98
abbrev f_ref03_add : Nat := 99
noncomputable abbrev F_ref03_add : Func := Try.f99
theorem h_ref03_add : Try.prog.funcs[f_ref03_add]? = some F_ref03_add := Try.func99
abbrev f_scalar_Of : Nat := 100
noncomputable abbrev F_scalar_Of : Func := Try.f100
theorem h_scalar_Of : Try.prog.funcs[f_scalar_Of]? = some F_scalar_Of := Try.func100
abbrev f_bits_Sub64 : Nat := 101
noncomputable abbrev F_bits_Sub64 : Func := Try.f101
theorem h_bits_Sub64 : Try.prog.funcs[f_bits_Sub64]? = some F_bits_Sub64 := Try.func101
abbrev f_scalar_minus : Nat := 102
noncomputable abbrev F_scalar_minus : Func := Try.f102
theorem h_scalar_minus : Try.prog.funcs[f_scalar_minus]? = some F_scalar_minus := Try.func102
abbrev f_scalar_order : Nat := 103
noncomputable abbrev F_scalar_order : Func := Try.f103
theorem h_scalar_order : Try.prog.funcs[f_scalar_order]? = some F_scalar_order := Try.func103
abbrev t_int : Nat := 3
abbrev t_bool : Nat := 4
abbrev t_uint8 : Nat := 5
abbrev t_string : Nat := 9
abbrev t_uint64 : Nat := 22
abbrev t_a4_uint64 : Nat := 23
abbrev t_api_Fe : Nat := 24
abbrev t_api_Point : Nat := 26
abbrev t_api_Scalar : Nat := 34
abbrev t_a2_api_Point : Nat := 37
abbrev t_a32_uint8 : Nat := 40
abbrev t_api_Key : Nat := 41
abbrev t_s_api_Point : Nat := 45
abbrev t_s_api_Term : Nat := 46
abbrev t_s_uint8 : Nat := 54
abbrev t_a33_uint8 : Nat := 55
abbrev t_tollhouseref03_Num : Nat := 63
abbrev t_a3_uint64 : Nat := 65
abbrev t_tollhouseref03_Mod : Nat := 67
abbrev t_curve_far : Nat := 75
abbrev t_tollhouseref05_jac : Nat := 81
abbrev t_api_Term : Nat := 93
abbrev t_a8_uint64 : Nat := 101
abbrev t_s_uint64 : Nat := 104
abbrev t_a16_curve_far : Nat := 112
abbrev t_uint32 : Nat := 128
def prim0 : Nat → Option Prim
  | 96 => some .add64
  | 101 => some .sub64
  | _ => none
def prim1 : Nat → Option Prim
  | 96 => some .add64
  | 101 => some .sub64
  | 81 => some .mul64
  | _ => none
def rd : Nat → Bool
  | 76 => false
  | _ => true
def hk : Nat → Nat
  | 9 => 1
  | 10 => 1
  | 11 => 1
  | 12 => 1
  | 27 => 1
  | 28 => 1
  | 29 => 1
  | 30 => 1
  | 31 => 1
  | 33 => 2
  | 34 => 1
  | 35 => 1
  | 38 => 1
  | 39 => 1
  | 71 => 1
  | 73 => 1
  | 76 => 2
  | 104 => 1
  | 106 => 1
  | 107 => 1
  | 108 => 1
  | 109 => 1
  | 110 => 1
  | 111 => 1
  | 112 => 1
  | 113 => 1
  | 114 => 1
  | 115 => 1
  | 116 => 1
  | 117 => 1
  | 118 => 1
  | 119 => 1
  | _ => 0
noncomputable def HHo (A : Hv.Base) (ord : Nat → Option (List Nat)) : Hv.Cfg := ⟨Try.prog, A, TT, prim1, hk, ord⟩
noncomputable abbrev HH (A : Hv.Base) : Hv.Cfg := HHo A (fun _ => none)
noncomputable def G0 (W0 : World) : Cfg := ⟨Try.prog, W0, TT, prim0, rd⟩
noncomputable def GG (W0 : World) : Cfg := ⟨Try.prog, W0, TT, prim1, rd⟩
theorem row2 : RowOk Try.prog 2 ⟨false, 1, [.int .i64 0], false, .int .i64⟩ :=
  ⟨by kernel_rfl, by kernel_rfl, by kernel_rfl, by kernel_rfl, (show Try.prog.underlying 2 = some (.int .i64) by kernel_rfl), fun h => by cases h⟩
theorem row3 : RowOk Try.prog 3 ⟨false, 1, [.int .i64 0], false, .int .i64⟩ :=
  ⟨by kernel_rfl, by kernel_rfl, by kernel_rfl, by kernel_rfl, (show Try.prog.underlying 3 = some (.int .i64) by kernel_rfl), fun h => by cases h⟩
theorem row4 : RowOk Try.prog 4 ⟨false, 1, [.bool false], false, .bool⟩ :=
  ⟨by kernel_rfl, by kernel_rfl, by kernel_rfl, by kernel_rfl, (show Try.prog.underlying 4 = some (.bool) by kernel_rfl), fun h => by cases h⟩
theorem row5 : RowOk Try.prog 5 ⟨false, 1, [.int .u8 0], false, .int .u8⟩ :=
  ⟨by kernel_rfl, by kernel_rfl, by kernel_rfl, by kernel_rfl, (show Try.prog.underlying 5 = some (.int .u8) by kernel_rfl), fun h => by cases h⟩
theorem row9 : RowOk Try.prog 9 ⟨false, 1, [.str ByteArray.empty], false, .string⟩ :=
  ⟨by kernel_rfl, by kernel_rfl, by kernel_rfl, by kernel_rfl, (show Try.prog.underlying 9 = some (.string) by kernel_rfl), fun h => by cases h⟩
theorem row22 : RowOk Try.prog 22 ⟨false, 1, [.int .u64 0], false, .int .u64⟩ :=
  ⟨by kernel_rfl, by kernel_rfl, by kernel_rfl, by kernel_rfl, (show Try.prog.underlying 22 = some (.int .u64) by kernel_rfl), fun h => by cases h⟩
theorem row23 : RowOk Try.prog 23 ⟨true, 4, [.int .u64 0, .int .u64 0, .int .u64 0, .int .u64 0], true, .array 4 1 false⟩ :=
  ⟨by kernel_rfl, by kernel_rfl, by kernel_rfl, by kernel_rfl, kArray (by kernel_rfl), fun _ => eqRow_of (ks := [some .u64, some .u64, some .u64, some .u64]) (D := 12) (by decide) (by kernel_rfl) (by kernel_rfl) (by kernel_rfl) (by kernel_rfl)⟩
theorem row24 : RowOk Try.prog 24 ⟨true, 4, [.int .u64 0, .int .u64 0, .int .u64 0, .int .u64 0], true, .array 4 1 false⟩ :=
  ⟨by kernel_rfl, by kernel_rfl, by kernel_rfl, by kernel_rfl, kArray (by kernel_rfl), fun _ => eqRow_of (ks := [some .u64, some .u64, some .u64, some .u64]) (D := 12) (by decide) (by kernel_rfl) (by kernel_rfl) (by kernel_rfl) (by kernel_rfl)⟩
theorem row25 : RowOk Try.prog 25 ⟨true, 9, [.int .u64 0, .int .u64 0, .int .u64 0, .int .u64 0, .int .u64 0, .int .u64 0, .int .u64 0, .int .u64 0, .bool false], true, .struct [(0, 4, true), (4, 4, true), (8, 1, false)]⟩ :=
  ⟨by kernel_rfl, by kernel_rfl, by kernel_rfl, by kernel_rfl, kStruct (by kernel_rfl), fun _ => eqRow_of (ks := [some .u64, some .u64, some .u64, some .u64, some .u64, some .u64, some .u64, some .u64, none]) (D := 12) (by decide) (by kernel_rfl) (by kernel_rfl) (by kernel_rfl) (by kernel_rfl)⟩
theorem row26 : RowOk Try.prog 26 ⟨true, 9, [.int .u64 0, .int .u64 0, .int .u64 0, .int .u64 0, .int .u64 0, .int .u64 0, .int .u64 0, .int .u64 0, .bool false], true, .struct [(0, 4, true), (4, 4, true), (8, 1, false)]⟩ :=
  ⟨by kernel_rfl, by kernel_rfl, by kernel_rfl, by kernel_rfl, kStruct (by kernel_rfl), fun _ => eqRow_of (ks := [some .u64, some .u64, some .u64, some .u64, some .u64, some .u64, some .u64, some .u64, none]) (D := 12) (by decide) (by kernel_rfl) (by kernel_rfl) (by kernel_rfl) (by kernel_rfl)⟩
theorem row34 : RowOk Try.prog 34 ⟨true, 4, [.int .u64 0, .int .u64 0, .int .u64 0, .int .u64 0], true, .array 4 1 false⟩ :=
  ⟨by kernel_rfl, by kernel_rfl, by kernel_rfl, by kernel_rfl, kArray (by kernel_rfl), fun _ => eqRow_of (ks := [some .u64, some .u64, some .u64, some .u64]) (D := 12) (by decide) (by kernel_rfl) (by kernel_rfl) (by kernel_rfl) (by kernel_rfl)⟩
theorem row37 : RowOk Try.prog 37 ⟨true, 18, [.int .u64 0, .int .u64 0, .int .u64 0, .int .u64 0, .int .u64 0, .int .u64 0, .int .u64 0, .int .u64 0, .bool false, .int .u64 0, .int .u64 0, .int .u64 0, .int .u64 0, .int .u64 0, .int .u64 0, .int .u64 0, .int .u64 0, .bool false], true, .array 2 9 true⟩ :=
  ⟨by kernel_rfl, by kernel_rfl, by kernel_rfl, by kernel_rfl, kArray (by kernel_rfl), fun _ => eqRow_of (ks := [some .u64, some .u64, some .u64, some .u64, some .u64, some .u64, some .u64, some .u64, none, some .u64, some .u64, some .u64, some .u64, some .u64, some .u64, some .u64, some .u64, none]) (D := 12) (by decide) (by kernel_rfl) (by kernel_rfl) (by kernel_rfl) (by kernel_rfl)⟩
theorem row40 : RowOk Try.prog 40 ⟨true, 32, List.replicate 32 (.int .u8 0), true, .array 32 1 false⟩ :=
  ⟨by kernel_rfl, by kernel_rfl, by kernel_rfl, by kernel_rfl, kArray (by kernel_rfl), fun _ => eqRow_of (ks := List.replicate 32 (some .u8)) (D := 12) (by decide) (by kernel_rfl) (by kernel_rfl) (by kernel_rfl) (by kernel_rfl)⟩
theorem row41 : RowOk Try.prog 41 ⟨true, 32, List.replicate 32 (.int .u8 0), true, .array 32 1 false⟩ :=
  ⟨by kernel_rfl, by kernel_rfl, by kernel_rfl, by kernel_rfl, kArray (by kernel_rfl), fun _ => eqRow_of (ks := List.replicate 32 (some .u8)) (D := 12) (by decide) (by kernel_rfl) (by kernel_rfl) (by kernel_rfl) (by kernel_rfl)⟩
theorem row45 : RowOk Try.prog 45 ⟨false, 1, [.slice none 0 0], false, .slice 26 9 72 true⟩ :=
  ⟨by kernel_rfl, by kernel_rfl, by kernel_rfl, by kernel_rfl, kSlice (by kernel_rfl), fun h => by cases h⟩
theorem row46 : RowOk Try.prog 46 ⟨false, 1, [.slice none 0 0], false, .slice 93 13 104 true⟩ :=
  ⟨by kernel_rfl, by kernel_rfl, by kernel_rfl, by kernel_rfl, kSlice (by kernel_rfl), fun h => by cases h⟩
theorem row54 : RowOk Try.prog 54 ⟨false, 1, [.slice none 0 0], false, .slice 5 1 1 false⟩ :=
  ⟨by kernel_rfl, by kernel_rfl, by kernel_rfl, by kernel_rfl, kSlice (by kernel_rfl), fun h => by cases h⟩
theorem row55 : RowOk Try.prog 55 ⟨true, 33, List.replicate 33 (.int .u8 0), true, .array 33 1 false⟩ :=
  ⟨by kernel_rfl, by kernel_rfl, by kernel_rfl, by kernel_rfl, kArray (by kernel_rfl), fun _ => eqRow_of (ks := List.replicate 33 (some .u8)) (D := 12) (by decide) (by kernel_rfl) (by kernel_rfl) (by kernel_rfl) (by kernel_rfl)⟩
theorem row63 : RowOk Try.prog 63 ⟨true, 4, [.int .u64 0, .int .u64 0, .int .u64 0, .int .u64 0], true, .array 4 1 false⟩ :=
  ⟨by kernel_rfl, by kernel_rfl, by kernel_rfl, by kernel_rfl, kArray (by kernel_rfl), fun _ => eqRow_of (ks := [some .u64, some .u64, some .u64, some .u64]) (D := 12) (by decide) (by kernel_rfl) (by kernel_rfl) (by kernel_rfl) (by kernel_rfl)⟩
theorem row65 : RowOk Try.prog 65 ⟨true, 3, [.int .u64 0, .int .u64 0, .int .u64 0], true, .array 3 1 false⟩ :=
  ⟨by kernel_rfl, by kernel_rfl, by kernel_rfl, by kernel_rfl, kArray (by kernel_rfl), fun _ => eqRow_of (ks := [some .u64, some .u64, some .u64]) (D := 12) (by decide) (by kernel_rfl) (by kernel_rfl) (by kernel_rfl) (by kernel_rfl)⟩
theorem row66 : RowOk Try.prog 66 ⟨true, 7, List.replicate 7 (.int .u64 0), true, .struct [(0, 4, true), (4, 3, true)]⟩ :=
  ⟨by kernel_rfl, by kernel_rfl, by kernel_rfl, by kernel_rfl, kStruct (by kernel_rfl), fun _ => eqRow_of (ks := List.replicate 7 (some .u64)) (D := 12) (by decide) (by kernel_rfl) (by kernel_rfl) (by kernel_rfl) (by kernel_rfl)⟩
theorem row67 : RowOk Try.prog 67 ⟨true, 7, List.replicate 7 (.int .u64 0), true, .struct [(0, 4, true), (4, 3, true)]⟩ :=
  ⟨by kernel_rfl, by kernel_rfl, by kernel_rfl, by kernel_rfl, kStruct (by kernel_rfl), fun _ => eqRow_of (ks := List.replicate 7 (some .u64)) (D := 12) (by decide) (by kernel_rfl) (by kernel_rfl) (by kernel_rfl) (by kernel_rfl)⟩
theorem row74 : RowOk Try.prog 74 ⟨true, 12, List.replicate 12 (.int .u64 0), true, .struct [(0, 4, true), (4, 4, true), (8, 4, true)]⟩ :=
  ⟨by kernel_rfl, by kernel_rfl, by kernel_rfl, by kernel_rfl, kStruct (by kernel_rfl), fun _ => eqRow_of (ks := List.replicate 12 (some .u64)) (D := 12) (by decide) (by kernel_rfl) (by kernel_rfl) (by kernel_rfl) (by kernel_rfl)⟩
theorem row75 : RowOk Try.prog 75 ⟨true, 12, List.replicate 12 (.int .u64 0), true, .struct [(0, 4, true), (4, 4, true), (8, 4, true)]⟩ :=
  ⟨by kernel_rfl, by kernel_rfl, by kernel_rfl, by kernel_rfl, kStruct (by kernel_rfl), fun _ => eqRow_of (ks := List.replicate 12 (some .u64)) (D := 12) (by decide) (by kernel_rfl) (by kernel_rfl) (by kernel_rfl) (by kernel_rfl)⟩
theorem row80 : RowOk Try.prog 80 ⟨true, 12, List.replicate 12 (.int .u64 0), true, .struct [(0, 4, true), (4, 4, true), (8, 4, true)]⟩ :=
  ⟨by kernel_rfl, by kernel_rfl, by kernel_rfl, by kernel_rfl, kStruct (by kernel_rfl), fun _ => eqRow_of (ks := List.replicate 12 (some .u64)) (D := 12) (by decide) (by kernel_rfl) (by kernel_rfl) (by kernel_rfl) (by kernel_rfl)⟩
theorem row81 : RowOk Try.prog 81 ⟨true, 12, List.replicate 12 (.int .u64 0), true, .struct [(0, 4, true), (4, 4, true), (8, 4, true)]⟩ :=
  ⟨by kernel_rfl, by kernel_rfl, by kernel_rfl, by kernel_rfl, kStruct (by kernel_rfl), fun _ => eqRow_of (ks := List.replicate 12 (some .u64)) (D := 12) (by decide) (by kernel_rfl) (by kernel_rfl) (by kernel_rfl) (by kernel_rfl)⟩
theorem row92 : RowOk Try.prog 92 ⟨true, 13, [.int .u64 0, .int .u64 0, .int .u64 0, .int .u64 0, .int .u64 0, .int .u64 0, .int .u64 0, .int .u64 0, .int .u64 0, .int .u64 0, .int .u64 0, .int .u64 0, .bool false], true, .struct [(0, 4, true), (4, 9, true)]⟩ :=
  ⟨by kernel_rfl, by kernel_rfl, by kernel_rfl, by kernel_rfl, kStruct (by kernel_rfl), fun _ => eqRow_of (ks := [some .u64, some .u64, some .u64, some .u64, some .u64, some .u64, some .u64, some .u64, some .u64, some .u64, some .u64, some .u64, none]) (D := 12) (by decide) (by kernel_rfl) (by kernel_rfl) (by kernel_rfl) (by kernel_rfl)⟩
theorem row93 : RowOk Try.prog 93 ⟨true, 13, [.int .u64 0, .int .u64 0, .int .u64 0, .int .u64 0, .int .u64 0, .int .u64 0, .int .u64 0, .int .u64 0, .int .u64 0, .int .u64 0, .int .u64 0, .int .u64 0, .bool false], true, .struct [(0, 4, true), (4, 9, true)]⟩ :=
  ⟨by kernel_rfl, by kernel_rfl, by kernel_rfl, by kernel_rfl, kStruct (by kernel_rfl), fun _ => eqRow_of (ks := [some .u64, some .u64, some .u64, some .u64, some .u64, some .u64, some .u64, some .u64, some .u64, some .u64, some .u64, some .u64, none]) (D := 12) (by decide) (by kernel_rfl) (by kernel_rfl) (by kernel_rfl) (by kernel_rfl)⟩
theorem row101 : RowOk Try.prog 101 ⟨true, 8, List.replicate 8 (.int .u64 0), true, .array 8 1 false⟩ :=
  ⟨by kernel_rfl, by kernel_rfl, by kernel_rfl, by kernel_rfl, kArray (by kernel_rfl), fun _ => eqRow_of (ks := List.replicate 8 (some .u64)) (D := 12) (by decide) (by kernel_rfl) (by kernel_rfl) (by kernel_rfl) (by kernel_rfl)⟩
theorem row104 : RowOk Try.prog 104 ⟨false, 1, [.slice none 0 0], false, .slice 22 1 8 false⟩ :=
  ⟨by kernel_rfl, by kernel_rfl, by kernel_rfl, by kernel_rfl, kSlice (by kernel_rfl), fun h => by cases h⟩
theorem row112 : RowOk Try.prog 112 ⟨true, 192, List.replicate 192 (.int .u64 0), true, .array 16 12 true⟩ :=
  ⟨by kernel_rfl, by kernel_rfl, by kernel_rfl, by kernel_rfl, kArray (by kernel_rfl), fun _ => eqRow_of (ks := List.replicate 192 (some .u64)) (D := 12) (by decide) (by kernel_rfl) (by kernel_rfl) (by kernel_rfl) (by kernel_rfl)⟩
theorem row116 : RowOk Try.prog 116 ⟨false, 1, [.int .u64 0], false, .int .u64⟩ :=
  ⟨by kernel_rfl, by kernel_rfl, by kernel_rfl, by kernel_rfl, (show Try.prog.underlying 116 = some (.int .u64) by kernel_rfl), fun h => by cases h⟩
theorem row122 : RowOk Try.prog 122 ⟨true, 4, [.ptr none, .ptr none, .ptr none, .str ByteArray.empty], false, .struct [(0, 1, false), (1, 1, false), (2, 1, false), (3, 1, false)]⟩ :=
  ⟨by kernel_rfl, by kernel_rfl, by kernel_rfl, by kernel_rfl, kStruct (by kernel_rfl), fun h => by cases h⟩
theorem row123 : RowOk Try.prog 123 ⟨true, 4, [.ptr none, .ptr none, .ptr none, .str ByteArray.empty], false, .struct [(0, 1, false), (1, 1, false), (2, 1, false), (3, 1, false)]⟩ :=
  ⟨by kernel_rfl, by kernel_rfl, by kernel_rfl, by kernel_rfl, kStruct (by kernel_rfl), fun h => by cases h⟩
theorem row124 : RowOk Try.prog 124 ⟨true, 0, [], false, .array 0 1 false⟩ :=
  ⟨by kernel_rfl, by kernel_rfl, by kernel_rfl, by kernel_rfl, kArray (by kernel_rfl), fun h => by cases h⟩
theorem row128 : RowOk Try.prog 128 ⟨false, 1, [.int .u32 0], false, .int .u32⟩ :=
  ⟨by kernel_rfl, by kernel_rfl, by kernel_rfl, by kernel_rfl, (show Try.prog.underlying 128 = some (.int .u32) by kernel_rfl), fun h => by cases h⟩
theorem row129 : RowOk Try.prog 129 ⟨false, 1, [.int .u8 0], false, .int .u8⟩ :=
  ⟨by kernel_rfl, by kernel_rfl, by kernel_rfl, by kernel_rfl, (show Try.prog.underlying 129 = some (.int .u8) by kernel_rfl), fun h => by cases h⟩
theorem row130 : RowOk Try.prog 130 ⟨false, 1, [.int .u8 0], false, .int .u8⟩ :=
  ⟨by kernel_rfl, by kernel_rfl, by kernel_rfl, by kernel_rfl, (show Try.prog.underlying 130 = some (.int .u8) by kernel_rfl), fun h => by cases h⟩
theorem row132 : RowOk Try.prog 132 ⟨false, 1, [.ptr none], false, .other⟩ :=
  ⟨by kernel_rfl, by kernel_rfl, by kernel_rfl, by kernel_rfl, trivial, fun h => by cases h⟩
theorem row133 : RowOk Try.prog 133 ⟨false, 1, [.int .i32 0], false, .int .i32⟩ :=
  ⟨by kernel_rfl, by kernel_rfl, by kernel_rfl, by kernel_rfl, (show Try.prog.underlying 133 = some (.int .i32) by kernel_rfl), fun h => by cases h⟩
theorem row134 : RowOk Try.prog 134 ⟨false, 1, [.int .i32 0], false, .int .i32⟩ :=
  ⟨by kernel_rfl, by kernel_rfl, by kernel_rfl, by kernel_rfl, (show Try.prog.underlying 134 = some (.int .i32) by kernel_rfl), fun h => by cases h⟩
theorem row135 : RowOk Try.prog 135 ⟨true, 11, [.int .u64 0, .int .u64 0, .int .u32 0, .int .u8 0, .int .u8 0, .int .u8 0, .int .u8 0, .raw .nilFunc, .ptr none, .int .i32 0, .int .i32 0], false, .struct [(0, 1, false), (1, 1, false), (2, 1, false), (3, 1, false), (4, 1, false), (5, 1, false), (6, 1, false), (7, 1, false), (8, 1, false), (9, 1, false), (10, 1, false)]⟩ :=
  ⟨by kernel_rfl, by kernel_rfl, by kernel_rfl, by kernel_rfl, kStruct (by kernel_rfl), fun h => by cases h⟩
theorem row136 : RowOk Try.prog 136 ⟨true, 11, [.int .u64 0, .int .u64 0, .int .u32 0, .int .u8 0, .int .u8 0, .int .u8 0, .int .u8 0, .raw .nilFunc, .ptr none, .int .i32 0, .int .i32 0], false, .struct [(0, 1, false), (1, 1, false), (2, 1, false), (3, 1, false), (4, 1, false), (5, 1, false), (6, 1, false), (7, 1, false), (8, 1, false), (9, 1, false), (10, 1, false)]⟩ :=
  ⟨by kernel_rfl, by kernel_rfl, by kernel_rfl, by kernel_rfl, kStruct (by kernel_rfl), fun h => by cases h⟩
theorem tysOk : TysOk Try.prog TT := tysOk_of (by
  unfold TT
  simp only [List.forall_mem_cons]
  exact ⟨row2, row3, row4, row5, row9, row22, row23, row24, row25, row26, row34, row37, row40, row41, row45, row46, row54, row55, row63, row65, row66, row67, row74, row75, row80, row81, row92, row93, row101, row104, row112, row116, row122, row123, row124, row128, row129, row130, row132, row133, row134, row135, row136, fun _ h => by cases h⟩)
theorem p_add64 (W0 : World) : PrimOk Try.prog W0 96 .add64 := primOk_add64 Try.func96 (by kernel_rfl) (by kernel_rfl) (by kernel_rfl) (by kernel_rfl)
theorem p_sub64 (W0 : World) : PrimOk Try.prog W0 101 .sub64 := primOk_sub64 Try.func101 (by kernel_rfl) (by kernel_rfl) (by kernel_rfl) (by kernel_rfl)
theorem g0Ok (W0 : World) : CfgOk (G0 W0) := ⟨tysOk, (fun f p h => by
  change prim0 f = some p at h
  unfold prim0 at h
  split at h
  · simp only [Option.some.injEq] at h; subst h; exact p_add64 W0
  · simp only [Option.some.injEq] at h; subst h; exact p_sub64 W0
  · cases h), by kernel_rfl⟩
theorem hhOk (hm : ∀ W0, PrimOk Try.prog W0 81 .mul64) (A : Hv.Base) (ord : Nat → Option (List Nat)) : Hv.CfgOk (HHo A ord) := ⟨tysOk, (fun f p h W0 => by
  change prim1 f = some p at h
  unfold prim1 at h
  split at h
  · simp only [Option.some.injEq] at h; subst h; exact p_add64 W0
  · simp only [Option.some.injEq] at h; subst h; exact p_sub64 W0
  · simp only [Option.some.injEq] at h; subst h; exact hm W0
  · cases h), by kernel_rfl⟩
theorem ggOk (hm : ∀ W0, PrimOk Try.prog W0 81 .mul64) (W0 : World) : CfgOk (GG W0) := ⟨tysOk, (fun f p h => by
  change prim1 f = some p at h
  unfold prim1 at h
  split at h
  · simp only [Option.some.injEq] at h; subst h; exact p_add64 W0
  · simp only [Option.some.injEq] at h; subst h; exact p_sub64 W0
  · simp only [Option.some.injEq] at h; subst h; exact hm W0
  · cases h), by kernel_rfl⟩
end Go.Ev
