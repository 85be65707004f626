/- The types of this seat's program as the walk asks for them, each held against the program; its functions' numbers by their names. Written by a program of this session (tools/tys.py). -/
import Derived.Test.YtaochmekimkegaaGreatDoorEvA
import Derived.Test.YtaochmekimkegaaGreatDoorHvA
import Derived.Test.YtaochmekimkegaaGreatDoorChecked
namespace Go.Ev
open Go.Proofs
def TT : Tys := [
  (2, ⟨false, 1, [.int .i64 0], false, .int .i64⟩),
  (3, ⟨false, 1, [.int .i64 0], false, .int .i64⟩),
  (4, ⟨false, 1, [.bool false], false, .bool⟩),
  (5, ⟨false, 1, [.int .u8 0], false, .int .u8⟩),
  (9, ⟨false, 1, [.str ByteArray.empty], false, .string⟩),
  (22, ⟨true, 32, List.replicate 32 (.int .u8 0), true, .array 32 1 false⟩),
  (23, ⟨true, 32, List.replicate 32 (.int .u8 0), true, .array 32 1 false⟩),
  (24, ⟨false, 1, [.int .u64 0], false, .int .u64⟩),
  (25, ⟨true, 4, [.int .u64 0, .int .u64 0, .int .u64 0, .int .u64 0], true, .array 4 1 false⟩),
  (26, ⟨true, 4, [.int .u64 0, .int .u64 0, .int .u64 0, .int .u64 0], true, .array 4 1 false⟩),
  (27, ⟨true, 9, [.int .u64 0, .int .u64 0, .int .u64 0, .int .u64 0, .int .u64 0, .int .u64 0, .int .u64 0, .int .u64 0, .bool false], true, .struct [(0, 4, true), (4, 4, true), (8, 1, false)]⟩),
  (28, ⟨true, 9, [.int .u64 0, .int .u64 0, .int .u64 0, .int .u64 0, .int .u64 0, .int .u64 0, .int .u64 0, .int .u64 0, .bool false], true, .struct [(0, 4, true), (4, 4, true), (8, 1, false)]⟩),
  (29, ⟨true, 42, [.bool false, .int .u8 0, .int .u8 0, .int .u8 0, .int .u8 0, .int .u8 0, .int .u8 0, .int .u8 0, .int .u8 0, .int .u8 0, .int .u8 0, .int .u8 0, .int .u8 0, .int .u8 0, .int .u8 0, .int .u8 0, .int .u8 0, .int .u8 0, .int .u8 0, .int .u8 0, .int .u8 0, .int .u8 0, .int .u8 0, .int .u8 0, .int .u8 0, .int .u8 0, .int .u8 0, .int .u8 0, .int .u8 0, .int .u8 0, .int .u8 0, .int .u8 0, .int .u8 0, .int .u64 0, .int .u64 0, .int .u64 0, .int .u64 0, .int .u64 0, .int .u64 0, .int .u64 0, .int .u64 0, .bool false], true, .struct [(0, 1, false), (1, 32, true), (33, 9, true)]⟩),
  (30, ⟨true, 42, [.bool false, .int .u8 0, .int .u8 0, .int .u8 0, .int .u8 0, .int .u8 0, .int .u8 0, .int .u8 0, .int .u8 0, .int .u8 0, .int .u8 0, .int .u8 0, .int .u8 0, .int .u8 0, .int .u8 0, .int .u8 0, .int .u8 0, .int .u8 0, .int .u8 0, .int .u8 0, .int .u8 0, .int .u8 0, .int .u8 0, .int .u8 0, .int .u8 0, .int .u8 0, .int .u8 0, .int .u8 0, .int .u8 0, .int .u8 0, .int .u8 0, .int .u8 0, .int .u8 0, .int .u64 0, .int .u64 0, .int .u64 0, .int .u64 0, .int .u64 0, .int .u64 0, .int .u64 0, .int .u64 0, .bool false], true, .struct [(0, 1, false), (1, 32, true), (33, 9, true)]⟩),
  (31, ⟨true, 11, [.bool false, .int .u64 0, .int .u64 0, .int .u64 0, .int .u64 0, .int .u64 0, .int .u64 0, .int .u64 0, .int .u64 0, .int .u64 0, .bool false], true, .struct [(0, 1, false), (1, 1, false), (2, 9, true)]⟩),
  (32, ⟨true, 11, [.bool false, .int .u64 0, .int .u64 0, .int .u64 0, .int .u64 0, .int .u64 0, .int .u64 0, .int .u64 0, .int .u64 0, .int .u64 0, .bool false], true, .struct [(0, 1, false), (1, 1, false), (2, 9, true)]⟩),
  (33, ⟨true, 4, [.int .u64 0, .int .u64 0, .int .u64 0, .int .u64 0], true, .array 4 1 false⟩),
  (34, ⟨true, 41, [.int .u8 0, .int .u8 0, .int .u8 0, .int .u8 0, .int .u8 0, .int .u8 0, .int .u8 0, .int .u8 0, .int .u8 0, .int .u8 0, .int .u8 0, .int .u8 0, .int .u8 0, .int .u8 0, .int .u8 0, .int .u8 0, .int .u8 0, .int .u8 0, .int .u8 0, .int .u8 0, .int .u8 0, .int .u8 0, .int .u8 0, .int .u8 0, .int .u8 0, .int .u8 0, .int .u8 0, .int .u8 0, .int .u8 0, .int .u8 0, .int .u8 0, .int .u8 0, .int .u64 0, .int .u64 0, .int .u64 0, .int .u64 0, .int .u64 0, .int .u64 0, .int .u64 0, .int .u64 0, .int .u64 0], true, .struct [(0, 32, true), (32, 1, false), (33, 4, true), (37, 4, true)]⟩),
  (35, ⟨true, 41, [.int .u8 0, .int .u8 0, .int .u8 0, .int .u8 0, .int .u8 0, .int .u8 0, .int .u8 0, .int .u8 0, .int .u8 0, .int .u8 0, .int .u8 0, .int .u8 0, .int .u8 0, .int .u8 0, .int .u8 0, .int .u8 0, .int .u8 0, .int .u8 0, .int .u8 0, .int .u8 0, .int .u8 0, .int .u8 0, .int .u8 0, .int .u8 0, .int .u8 0, .int .u8 0, .int .u8 0, .int .u8 0, .int .u8 0, .int .u8 0, .int .u8 0, .int .u8 0, .int .u64 0, .int .u64 0, .int .u64 0, .int .u64 0, .int .u64 0, .int .u64 0, .int .u64 0, .int .u64 0, .int .u64 0], true, .struct [(0, 32, true), (32, 1, false), (33, 4, true), (37, 4, true)]⟩),
  (47, ⟨true, 13, [.int .u64 0, .int .u64 0, .int .u64 0, .int .u64 0, .int .u64 0, .int .u64 0, .int .u64 0, .int .u64 0, .int .u64 0, .int .u64 0, .int .u64 0, .int .u64 0, .bool false], true, .struct [(0, 4, true), (4, 9, true)]⟩),
  (48, ⟨true, 13, [.int .u64 0, .int .u64 0, .int .u64 0, .int .u64 0, .int .u64 0, .int .u64 0, .int .u64 0, .int .u64 0, .int .u64 0, .int .u64 0, .int .u64 0, .int .u64 0, .bool false], true, .struct [(0, 4, true), (4, 9, true)]⟩),
  (49, ⟨false, 1, [.slice none 0 0], false, .slice 48 13 104 true⟩),
  (51, ⟨true, 4, [.int .u64 0, .int .u64 0, .int .u64 0, .int .u64 0], true, .array 4 1 false⟩),
  (53, ⟨true, 3, [.int .u64 0, .int .u64 0, .int .u64 0], true, .array 3 1 false⟩),
  (54, ⟨true, 7, List.replicate 7 (.int .u64 0), true, .struct [(0, 4, true), (4, 3, true)]⟩),
  (55, ⟨true, 7, List.replicate 7 (.int .u64 0), true, .struct [(0, 4, true), (4, 3, true)]⟩),
  (59, ⟨true, 12, List.replicate 12 (.int .u64 0), true, .struct [(0, 4, true), (4, 4, true), (8, 4, true)]⟩),
  (60, ⟨true, 12, List.replicate 12 (.int .u64 0), true, .struct [(0, 4, true), (4, 4, true), (8, 4, true)]⟩),
  (72, ⟨true, 12, List.replicate 12 (.int .u64 0), true, .struct [(0, 4, true), (4, 4, true), (8, 4, true)]⟩),
  (73, ⟨true, 12, List.replicate 12 (.int .u64 0), true, .struct [(0, 4, true), (4, 4, true), (8, 4, true)]⟩),
  (82, ⟨false, 1, [.slice none 0 0], false, .slice 5 1 1 false⟩),
  (85, ⟨true, 32, List.replicate 32 (.int .u8 0), true, .array 32 1 false⟩),
  (92, ⟨false, 1, [.slice none 0 0], false, .slice 82 1 24 false⟩),
  (96, ⟨true, 192, List.replicate 192 (.int .u64 0), true, .array 16 12 true⟩),
  (98, ⟨true, 8, List.replicate 8 (.int .u64 0), true, .array 8 1 false⟩),
  (102, ⟨false, 1, [.ptr none], false, .other⟩),
  (114, ⟨false, 1, [.slice none 0 0], false, .slice 24 1 8 false⟩),
  (118, ⟨false, 1, [.int .u64 0], false, .int .u64⟩),
  (119, ⟨false, 1, [.int .u32 0], false, .int .u32⟩),
  (120, ⟨true, 8, List.replicate 8 (.int .u32 0), true, .array 8 1 false⟩),
  (121, ⟨true, 8, List.replicate 8 (.int .u32 0), true, .array 8 1 false⟩),
  (123, ⟨true, 10, [.int .u32 0, .int .u32 0, .int .u32 0, .int .u32 0, .int .u32 0, .int .u32 0, .int .u32 0, .int .u32 0, .slice none 0 0, .int .i64 0], false, .struct [(0, 8, true), (8, 1, false), (9, 1, false)]⟩),
  (124, ⟨true, 10, [.int .u32 0, .int .u32 0, .int .u32 0, .int .u32 0, .int .u32 0, .int .u32 0, .int .u32 0, .int .u32 0, .slice none 0 0, .int .i64 0], false, .struct [(0, 8, true), (8, 1, false), (9, 1, false)]⟩),
  (128, ⟨true, 64, List.replicate 64 (.int .u32 0), true, .array 64 1 false⟩),
  (131, ⟨true, 4, [.ptr none, .ptr none, .ptr none, .str ByteArray.empty], false, .struct [(0, 1, false), (1, 1, false), (2, 1, false), (3, 1, false)]⟩),
  (132, ⟨true, 4, [.ptr none, .ptr none, .ptr none, .str ByteArray.empty], false, .struct [(0, 1, false), (1, 1, false), (2, 1, false), (3, 1, false)]⟩),
  (133, ⟨true, 0, [], false, .array 0 1 false⟩),
  (137, ⟨false, 1, [.int .u8 0], false, .int .u8⟩),
  (138, ⟨false, 1, [.int .u8 0], false, .int .u8⟩),
  (140, ⟨false, 1, [.ptr none], false, .other⟩),
  (141, ⟨false, 1, [.int .i32 0], false, .int .i32⟩),
  (142, ⟨false, 1, [.int .i32 0], false, .int .i32⟩),
  (143, ⟨true, 11, [.int .u64 0, .int .u64 0, .int .u32 0, .int .u8 0, .int .u8 0, .int .u8 0, .int .u8 0, .raw .nilFunc, .ptr none, .int .i32 0, .int .i32 0], false, .struct [(0, 1, false), (1, 1, false), (2, 1, false), (3, 1, false), (4, 1, false), (5, 1, false), (6, 1, false), (7, 1, false), (8, 1, false), (9, 1, false), (10, 1, false)]⟩),
  (144, ⟨true, 11, [.int .u64 0, .int .u64 0, .int .u32 0, .int .u8 0, .int .u8 0, .int .u8 0, .int .u8 0, .raw .nilFunc, .ptr none, .int .i32 0, .int .i32 0], false, .struct [(0, 1, false), (1, 1, false), (2, 1, false), (3, 1, false), (4, 1, false), (5, 1, false), (6, 1, false), (7, 1, false), (8, 1, false), (9, 1, false), (10, 1, false)]⟩)]
noncomputable abbrev PG : Program := Tryz.prog
abbrev f_law07_CommitOpens : Nat := 3
noncomputable abbrev F_law07_CommitOpens : Func := Tryz.f3
theorem h_law07_CommitOpens : Tryz.prog.funcs[f_law07_CommitOpens]? = some F_law07_CommitOpens := Tryz.func3
abbrev f_law07_alive : Nat := 4
noncomputable abbrev F_law07_alive : Func := Tryz.f4
theorem h_law07_alive : Tryz.prog.funcs[f_law07_alive]? = some F_law07_alive := Tryz.func4
abbrev f_commit_Opens : Nat := 5
noncomputable abbrev F_commit_Opens : Func := Tryz.f5
theorem h_commit_Opens : Tryz.prog.funcs[f_commit_Opens]? = some F_commit_Opens := Tryz.func5
abbrev f_ref07_Opens : Nat := 6
noncomputable abbrev F_ref07_Opens : Func := Tryz.f6
theorem h_ref07_Opens : Tryz.prog.funcs[f_ref07_Opens]? = some F_ref07_Opens := Tryz.func6
abbrev f_ref05_Base : Nat := 7
noncomputable abbrev F_ref05_Base : Func := Tryz.f7
theorem h_ref05_Base : Tryz.prog.funcs[f_ref05_Base]? = some F_ref05_Base := Tryz.func7
abbrev f_commit_Value : Nat := 8
noncomputable abbrev F_commit_Value : Func := Tryz.f8
theorem h_commit_Value : Tryz.prog.funcs[f_commit_Value]? = some F_commit_Value := Tryz.func8
abbrev f_ref05_Zero : Nat := 9
noncomputable abbrev F_ref05_Zero : Func := Tryz.f9
theorem h_ref05_Zero : Tryz.prog.funcs[f_ref05_Zero]? = some F_ref05_Zero := Tryz.func9
abbrev f_ref05_Mul : Nat := 10
noncomputable abbrev F_ref05_Mul : Func := Tryz.f10
theorem h_ref05_Mul : Tryz.prog.funcs[f_ref05_Mul]? = some F_ref05_Mul := Tryz.func10
abbrev f_commit_RightTag : Nat := 11
noncomputable abbrev F_commit_RightTag : Func := Tryz.f11
theorem h_commit_RightTag : Tryz.prog.funcs[f_commit_RightTag]? = some F_commit_RightTag := Tryz.func11
abbrev f_commit_RightAmount : Nat := 12
noncomputable abbrev F_commit_RightAmount : Func := Tryz.f12
theorem h_commit_RightAmount : Tryz.prog.funcs[f_commit_RightAmount]? = some F_commit_RightAmount := Tryz.func12
abbrev f_commit_Asset : Nat := 13
noncomputable abbrev F_commit_Asset : Func := Tryz.f13
theorem h_commit_Asset : Tryz.prog.funcs[f_commit_Asset]? = some F_commit_Asset := Tryz.func13
abbrev f_scalar_Norm : Nat := 14
noncomputable abbrev F_scalar_Norm : Func := Tryz.f14
theorem h_scalar_Norm : Tryz.prog.funcs[f_scalar_Norm]? = some F_scalar_Norm := Tryz.func14
abbrev f_ref07_RightTag : Nat := 15
noncomputable abbrev F_ref07_RightTag : Func := Tryz.f15
theorem h_ref07_RightTag : Tryz.prog.funcs[f_ref07_RightTag]? = some F_ref07_RightTag := Tryz.func15
abbrev f_ref07_RightAmount : Nat := 16
noncomputable abbrev F_ref07_RightAmount : Func := Tryz.f16
theorem h_ref07_RightAmount : Tryz.prog.funcs[f_ref07_RightAmount]? = some F_ref07_RightAmount := Tryz.func16
abbrev f_ref07_Asset : Nat := 17
noncomputable abbrev F_ref07_Asset : Func := Tryz.f17
theorem h_ref07_Asset : Tryz.prog.funcs[f_ref07_Asset]? = some F_ref07_Asset := Tryz.func17
abbrev f_ref05_Normal : Nat := 18
noncomputable abbrev F_ref05_Normal : Func := Tryz.f18
theorem h_ref05_Normal : Tryz.prog.funcs[f_ref05_Normal]? = some F_ref05_Normal := Tryz.func18
abbrev f_ref07_Value : Nat := 19
noncomputable abbrev F_ref07_Value : Func := Tryz.f19
theorem h_ref07_Value : Tryz.prog.funcs[f_ref07_Value]? = some F_ref07_Value := Tryz.func19
abbrev f_curve_Multi : Nat := 20
noncomputable abbrev F_curve_Multi : Func := Tryz.f20
theorem h_curve_Multi : Tryz.prog.funcs[f_curve_Multi]? = some F_curve_Multi := Tryz.func20
abbrev f_scalar_Of : Nat := 21
noncomputable abbrev F_scalar_Of : Func := Tryz.f21
theorem h_scalar_Of : Tryz.prog.funcs[f_scalar_Of]? = some F_scalar_Of := Tryz.func21
abbrev f_curve_Base : Nat := 22
noncomputable abbrev F_curve_Base : Func := Tryz.f22
theorem h_curve_Base : Tryz.prog.funcs[f_curve_Base]? = some F_curve_Base := Tryz.func22
abbrev f_ref05_Taken : Nat := 23
noncomputable abbrev F_ref05_Taken : Func := Tryz.f23
theorem h_ref05_Taken : Tryz.prog.funcs[f_ref05_Taken]? = some F_ref05_Taken := Tryz.func23
abbrev f_ref03_Norm : Nat := 24
noncomputable abbrev F_ref03_Norm : Func := Tryz.f24
theorem h_ref03_Norm : Tryz.prog.funcs[f_ref03_Norm]? = some F_ref03_Norm := Tryz.func24
abbrev f_ref03_N : Nat := 25
noncomputable abbrev F_ref03_N : Func := Tryz.f25
theorem h_ref03_N : Tryz.prog.funcs[f_ref03_N]? = some F_ref03_N := Tryz.func25
abbrev f_ref03_OfScalar : Nat := 26
noncomputable abbrev F_ref03_OfScalar : Func := Tryz.f26
theorem h_ref03_OfScalar : Tryz.prog.funcs[f_ref03_OfScalar]? = some F_ref03_OfScalar := Tryz.func26
abbrev f_ref03_Of : Nat := 27
noncomputable abbrev F_ref03_Of : Func := Tryz.f27
theorem h_ref03_Of : Tryz.prog.funcs[f_ref03_Of]? = some F_ref03_Of := Tryz.func27
abbrev f_ref05_twice : Nat := 28
noncomputable abbrev F_ref05_twice : Func := Tryz.f28
theorem h_ref05_twice : Tryz.prog.funcs[f_ref05_twice]? = some F_ref05_twice := Tryz.func28
abbrev f_ref05_plus : Nat := 29
noncomputable abbrev F_ref05_plus : Func := Tryz.f29
theorem h_ref05_plus : Tryz.prog.funcs[f_ref05_plus]? = some F_ref05_plus := Tryz.func29
abbrev f_ref03_Inv : Nat := 30
noncomputable abbrev F_ref03_Inv : Func := Tryz.f30
theorem h_ref03_Inv : Tryz.prog.funcs[f_ref03_Inv]? = some F_ref03_Inv := Tryz.func30
abbrev f_ref03_P : Nat := 31
noncomputable abbrev F_ref03_P : Func := Tryz.f31
theorem h_ref03_P : Tryz.prog.funcs[f_ref03_P]? = some F_ref03_P := Tryz.func31
abbrev f_ref05_mul : Nat := 32
noncomputable abbrev F_ref05_mul : Func := Tryz.f32
theorem h_ref05_mul : Tryz.prog.funcs[f_ref05_mul]? = some F_ref05_mul := Tryz.func32
abbrev f_ref05_point : Nat := 33
noncomputable abbrev F_ref05_point : Func := Tryz.f33
theorem h_ref05_point : Tryz.prog.funcs[f_ref05_point]? = some F_ref05_point := Tryz.func33
abbrev f_commit_point : Nat := 34
noncomputable abbrev F_commit_point : Func := Tryz.f34
theorem h_commit_point : Tryz.prog.funcs[f_commit_point]? = some F_commit_point := Tryz.func34
abbrev f_curve_Add : Nat := 35
noncomputable abbrev F_curve_Add : Func := Tryz.f35
theorem h_curve_Add : Tryz.prog.funcs[f_curve_Add]? = some F_curve_Add := Tryz.func35
abbrev f_curve_Generator : Nat := 36
noncomputable abbrev F_curve_Generator : Func := Tryz.f36
theorem h_curve_Generator : Tryz.prog.funcs[f_curve_Generator]? = some F_curve_Generator := Tryz.func36
abbrev f_curve_Mul : Nat := 37
noncomputable abbrev F_curve_Mul : Func := Tryz.f37
theorem h_curve_Mul : Tryz.prog.funcs[f_curve_Mul]? = some F_curve_Mul := Tryz.func37
abbrev f_scalar_minus : Nat := 38
noncomputable abbrev F_scalar_minus : Func := Tryz.f38
theorem h_scalar_minus : Tryz.prog.funcs[f_scalar_minus]? = some F_scalar_minus := Tryz.func38
abbrev f_scalar_order : Nat := 39
noncomputable abbrev F_scalar_order : Func := Tryz.f39
theorem h_scalar_order : Tryz.prog.funcs[f_scalar_order]? = some F_scalar_order := Tryz.func39
abbrev f_ref05_Right : Nat := 40
noncomputable abbrev F_ref05_Right : Func := Tryz.f40
theorem h_ref05_Right : Tryz.prog.funcs[f_ref05_Right]? = some F_ref05_Right := Tryz.func40
abbrev f_ref05_Add : Nat := 41
noncomputable abbrev F_ref05_Add : Func := Tryz.f41
theorem h_ref05_Add : Tryz.prog.funcs[f_ref05_Add]? = some F_ref05_Add := Tryz.func41
abbrev f_ref05_Generator : Nat := 42
noncomputable abbrev F_ref05_Generator : Func := Tryz.f42
theorem h_ref05_Generator : Tryz.prog.funcs[f_ref05_Generator]? = some F_ref05_Generator := Tryz.func42
abbrev f_ref03_Scalar : Nat := 43
noncomputable abbrev F_ref03_Scalar : Func := Tryz.f43
theorem h_ref03_Scalar : Tryz.prog.funcs[f_ref03_Scalar]? = some F_ref03_Scalar := Tryz.func43
abbrev f_curve_far_plus : Nat := 44
noncomputable abbrev F_curve_far_plus : Func := Tryz.f44
theorem h_curve_far_plus : Tryz.prog.funcs[f_curve_far_plus]? = some F_curve_far_plus := Tryz.func44
abbrev f_curve_out : Nat := 45
noncomputable abbrev F_curve_out : Func := Tryz.f45
theorem h_curve_out : Tryz.prog.funcs[f_curve_out]? = some F_curve_out := Tryz.func45
abbrev f_curve_far_times : Nat := 46
noncomputable abbrev F_curve_far_times : Func := Tryz.f46
theorem h_curve_far_times : Tryz.prog.funcs[f_curve_far_times]? = some F_curve_far_times := Tryz.func46
abbrev f_curve_far_home : Nat := 47
noncomputable abbrev F_curve_far_home : Func := Tryz.f47
theorem h_curve_far_home : Tryz.prog.funcs[f_curve_far_home]? = some F_curve_far_home := Tryz.func47
abbrev f_ref03_below : Nat := 48
noncomputable abbrev F_ref03_below : Func := Tryz.f48
theorem h_ref03_below : Tryz.prog.funcs[f_ref03_below]? = some F_ref03_below := Tryz.func48
abbrev f_ref03_minus : Nat := 49
noncomputable abbrev F_ref03_minus : Func := Tryz.f49
theorem h_ref03_minus : Tryz.prog.funcs[f_ref03_minus]? = some F_ref03_minus := Tryz.func49
abbrev f_ref05_add : Nat := 50
noncomputable abbrev F_ref05_add : Func := Tryz.f50
theorem h_ref05_add : Tryz.prog.funcs[f_ref05_add]? = some F_ref05_add := Tryz.func50
abbrev f_ref05_sub : Nat := 51
noncomputable abbrev F_ref05_sub : Func := Tryz.f51
theorem h_ref05_sub : Tryz.prog.funcs[f_ref05_sub]? = some F_ref05_sub := Tryz.func51
abbrev f_ref03_Small : Nat := 52
noncomputable abbrev F_ref03_Small : Func := Tryz.f52
theorem h_ref03_Small : Tryz.prog.funcs[f_ref03_Small]? = some F_ref03_Small := Tryz.func52
abbrev f_ref03_Power : Nat := 53
noncomputable abbrev F_ref03_Power : Func := Tryz.f53
theorem h_ref03_Power : Tryz.prog.funcs[f_ref03_Power]? = some F_ref03_Power := Tryz.func53
abbrev f_ref03_Mul : Nat := 54
noncomputable abbrev F_ref03_Mul : Func := Tryz.f54
theorem h_ref03_Mul : Tryz.prog.funcs[f_ref03_Mul]? = some F_ref03_Mul := Tryz.func54
abbrev f_ref03_Fe : Nat := 55
noncomputable abbrev F_ref03_Fe : Func := Tryz.f55
theorem h_ref03_Fe : Tryz.prog.funcs[f_ref03_Fe]? = some F_ref03_Fe := Tryz.func55
abbrev f_curve_Right : Nat := 56
noncomputable abbrev F_curve_Right : Func := Tryz.f56
theorem h_curve_Right : Tryz.prog.funcs[f_curve_Right]? = some F_curve_Right := Tryz.func56
abbrev f_curve_Zero : Nat := 57
noncomputable abbrev F_curve_Zero : Func := Tryz.f57
theorem h_curve_Zero : Tryz.prog.funcs[f_curve_Zero]? = some F_curve_Zero := Tryz.func57
abbrev f_sha_Tagged : Nat := 58
noncomputable abbrev F_sha_Tagged : Func := Tryz.f58
theorem h_sha_Tagged : Tryz.prog.funcs[f_sha_Tagged]? = some F_sha_Tagged := Tryz.func58
abbrev f_curve_Lift : Nat := 59
noncomputable abbrev F_curve_Lift : Func := Tryz.f59
theorem h_curve_Lift : Tryz.prog.funcs[f_curve_Lift]? = some F_curve_Lift := Tryz.func59
abbrev f_bits_Sub64 : Nat := 60
noncomputable abbrev F_bits_Sub64 : Func := Tryz.f60
theorem h_bits_Sub64 : Tryz.prog.funcs[f_bits_Sub64]? = some F_bits_Sub64 := Tryz.func60
abbrev f_ref03_Right : Nat := 61
noncomputable abbrev F_ref03_Right : Func := Tryz.f61
theorem h_ref03_Right : Tryz.prog.funcs[f_ref03_Right]? = some F_ref03_Right := Tryz.func61
abbrev f_ref05_cube : Nat := 62
noncomputable abbrev F_ref05_cube : Func := Tryz.f62
theorem h_ref05_cube : Tryz.prog.funcs[f_ref05_cube]? = some F_ref05_cube := Tryz.func62
abbrev f_ref01_Tagged : Nat := 63
noncomputable abbrev F_ref01_Tagged : Func := Tryz.f63
theorem h_ref01_Tagged : Tryz.prog.funcs[f_ref01_Tagged]? = some F_ref01_Tagged := Tryz.func63
abbrev f_ref01_Text : Nat := 64
noncomputable abbrev F_ref01_Text : Func := Tryz.f64
theorem h_ref01_Text : Tryz.prog.funcs[f_ref01_Text]? = some F_ref01_Text := Tryz.func64
abbrev f_ref05_Lift : Nat := 65
noncomputable abbrev F_ref05_Lift : Func := Tryz.f65
theorem h_ref05_Lift : Tryz.prog.funcs[f_ref05_Lift]? = some F_ref05_Lift := Tryz.func65
abbrev f_fe_Mul : Nat := 66
noncomputable abbrev F_fe_Mul : Func := Tryz.f66
theorem h_fe_Mul : Tryz.prog.funcs[f_fe_Mul]? = some F_fe_Mul := Tryz.func66
abbrev f_fe_Sub : Nat := 67
noncomputable abbrev F_fe_Sub : Func := Tryz.f67
theorem h_fe_Sub : Tryz.prog.funcs[f_fe_Sub]? = some F_fe_Sub := Tryz.func67
abbrev f_curve_far_twice : Nat := 68
noncomputable abbrev F_curve_far_twice : Func := Tryz.f68
theorem h_curve_far_twice : Tryz.prog.funcs[f_curve_far_twice]? = some F_curve_far_twice := Tryz.func68
abbrev f_fe_Add : Nat := 69
noncomputable abbrev F_fe_Add : Func := Tryz.f69
theorem h_fe_Add : Tryz.prog.funcs[f_fe_Add]? = some F_fe_Add := Tryz.func69
abbrev f_fe_Of : Nat := 70
noncomputable abbrev F_fe_Of : Func := Tryz.f70
theorem h_fe_Of : Tryz.prog.funcs[f_fe_Of]? = some F_fe_Of := Tryz.func70
abbrev f_fe_Inv : Nat := 71
noncomputable abbrev F_fe_Inv : Func := Tryz.f71
theorem h_fe_Inv : Tryz.prog.funcs[f_fe_Inv]? = some F_fe_Inv := Tryz.func71
abbrev f_ref03_Add : Nat := 72
noncomputable abbrev F_ref03_Add : Func := Tryz.f72
theorem h_ref03_Add : Tryz.prog.funcs[f_ref03_Add]? = some F_ref03_Add := Tryz.func72
abbrev f_ref03_Sub : Nat := 73
noncomputable abbrev F_ref03_Sub : Func := Tryz.f73
theorem h_ref03_Sub : Tryz.prog.funcs[f_ref03_Sub]? = some F_ref03_Sub := Tryz.func73
abbrev f_bits_Mul64 : Nat := 74
noncomputable abbrev F_bits_Mul64 : Func := Tryz.f74
theorem h_bits_Mul64 : Tryz.prog.funcs[f_bits_Mul64]? = some F_bits_Mul64 := Tryz.func74
abbrev f_bits_Add64 : Nat := 75
noncomputable abbrev F_bits_Add64 : Func := Tryz.f75
theorem h_bits_Add64 : Tryz.prog.funcs[f_bits_Add64]? = some F_bits_Add64 := Tryz.func75
abbrev f_ref03_fold : Nat := 76
noncomputable abbrev F_ref03_fold : Func := Tryz.f76
theorem h_ref03_fold : Tryz.prog.funcs[f_ref03_fold]? = some F_ref03_fold := Tryz.func76
abbrev f_fe_Norm : Nat := 77
noncomputable abbrev F_fe_Norm : Func := Tryz.f77
theorem h_fe_Norm : Tryz.prog.funcs[f_fe_Norm]? = some F_fe_Norm := Tryz.func77
abbrev f_curve_cube : Nat := 78
noncomputable abbrev F_curve_cube : Func := Tryz.f78
theorem h_curve_cube : Tryz.prog.funcs[f_curve_cube]? = some F_curve_cube := Tryz.func78
abbrev f_sha_Of : Nat := 79
noncomputable abbrev F_sha_Of : Func := Tryz.f79
theorem h_sha_Of : Tryz.prog.funcs[f_sha_Of]? = some F_sha_Of := Tryz.func79
abbrev f_sha_New : Nat := 80
noncomputable abbrev F_sha_New : Func := Tryz.f80
theorem h_sha_New : Tryz.prog.funcs[f_sha_New]? = some F_sha_New := Tryz.func80
abbrev f_sha_Hash_Write : Nat := 81
noncomputable abbrev F_sha_Hash_Write : Func := Tryz.f81
theorem h_sha_Hash_Write : Tryz.prog.funcs[f_sha_Hash_Write]? = some F_sha_Hash_Write := Tryz.func81
abbrev f_sha_Hash_Sum : Nat := 82
noncomputable abbrev F_sha_Hash_Sum : Func := Tryz.f82
theorem h_sha_Hash_Sum : Tryz.prog.funcs[f_sha_Hash_Sum]? = some F_sha_Hash_Sum := Tryz.func82
abbrev f_fe_Read : Nat := 83
noncomputable abbrev F_fe_Read : Func := Tryz.f83
theorem h_fe_Read : Tryz.prog.funcs[f_fe_Read]? = some F_fe_Read := Tryz.func83
abbrev f_fe_Sqrt : Nat := 84
noncomputable abbrev F_fe_Sqrt : Func := Tryz.f84
theorem h_fe_Sqrt : Tryz.prog.funcs[f_fe_Sqrt]? = some F_fe_Sqrt := Tryz.func84
abbrev f_ref01_Of : Nat := 85
noncomputable abbrev F_ref01_Of : Func := Tryz.f85
theorem h_ref01_Of : Tryz.prog.funcs[f_ref01_Of]? = some F_ref01_Of := Tryz.func85
abbrev f_ref03_Number : Nat := 86
noncomputable abbrev F_ref03_Number : Func := Tryz.f86
theorem h_ref03_Number : Tryz.prog.funcs[f_ref03_Number]? = some F_ref03_Number := Tryz.func86
abbrev f_ref03_Sqrt : Nat := 87
noncomputable abbrev F_ref03_Sqrt : Func := Tryz.f87
theorem h_ref03_Sqrt : Tryz.prog.funcs[f_ref03_Sqrt]? = some F_ref03_Sqrt := Tryz.func87
abbrev f_fe_times : Nat := 88
noncomputable abbrev F_fe_times : Func := Tryz.f88
theorem h_fe_times : Tryz.prog.funcs[f_fe_times]? = some F_fe_times := Tryz.func88
abbrev f_fe_plus : Nat := 89
noncomputable abbrev F_fe_plus : Func := Tryz.f89
theorem h_fe_plus : Tryz.prog.funcs[f_fe_plus]? = some F_fe_plus := Tryz.func89
abbrev f_fe_Neg : Nat := 90
noncomputable abbrev F_fe_Neg : Func := Tryz.f90
theorem h_fe_Neg : Tryz.prog.funcs[f_fe_Neg]? = some F_fe_Neg := Tryz.func90
abbrev f_fe_minus : Nat := 91
noncomputable abbrev F_fe_minus : Func := Tryz.f91
theorem h_fe_minus : Tryz.prog.funcs[f_fe_minus]? = some F_fe_minus := Tryz.func91
abbrev f_fe_prime : Nat := 92
noncomputable abbrev F_fe_prime : Func := Tryz.f92
theorem h_fe_prime : Tryz.prog.funcs[f_fe_prime]? = some F_fe_prime := Tryz.func92
abbrev f_fe_power : Nat := 93
noncomputable abbrev F_fe_power : Func := Tryz.f93
theorem h_fe_power : Tryz.prog.funcs[f_fe_power]? = some F_fe_power := Tryz.func93
abbrev f_ref03_Neg : Nat := 94
noncomputable abbrev F_ref03_Neg : Func := Tryz.f94
theorem h_ref03_Neg : Tryz.prog.funcs[f_ref03_Neg]? = some F_ref03_Neg := Tryz.func94
abbrev f_curve_seven : Nat := 95
noncomputable abbrev F_curve_seven : Func := Tryz.f95
theorem h_curve_seven : Tryz.prog.funcs[f_curve_seven]? = some F_curve_seven := Tryz.func95
abbrev f_sha_begun : Nat := 96
noncomputable abbrev F_sha_begun : Func := Tryz.f96
theorem h_sha_begun : Tryz.prog.funcs[f_sha_begun]? = some F_sha_begun := Tryz.func96
abbrev f_sha_state_mixed : Nat := 97
noncomputable abbrev F_sha_state_mixed : Func := Tryz.f97
theorem h_sha_state_mixed : Tryz.prog.funcs[f_sha_state_mixed]? = some F_sha_state_mixed := Tryz.func97
abbrev f_fe_Odd : Nat := 98
noncomputable abbrev F_fe_Odd : Func := Tryz.f98
theorem h_fe_Odd : Tryz.prog.funcs[f_fe_Odd]? = some F_fe_Odd := Tryz.func98
abbrev f_ref01_Padded : Nat := 99
noncomputable abbrev F_ref01_Padded : Func := Tryz.f99
theorem h_ref01_Padded : Tryz.prog.funcs[f_ref01_Padded]? = some F_ref01_Padded := Tryz.func99
abbrev f_ref01_rot : Nat := 100
noncomputable abbrev F_ref01_rot : Func := Tryz.f100
theorem h_ref01_rot : Tryz.prog.funcs[f_ref01_rot]? = some F_ref01_rot := Tryz.func100
abbrev f_ref03_add : Nat := 101
noncomputable abbrev F_ref03_add : Func := Tryz.f101
theorem h_ref03_add : Tryz.prog.funcs[f_ref03_add]? = some F_ref03_add := Tryz.func101
abbrev f_sha_turn : Nat := 102
noncomputable abbrev F_sha_turn : Func := Tryz.f102
theorem h_sha_turn : Tryz.prog.funcs[f_sha_turn]? = some F_sha_turn := Tryz.func102
abbrev f_bits_RotateLeft32 : Nat := 103
noncomputable abbrev F_bits_RotateLeft32 : Func := Tryz.f103
theorem h_bits_RotateLeft32 : Tryz.prog.funcs[f_bits_RotateLeft32]? = some F_bits_RotateLeft32 := Tryz.func103
abbrev f_sha_Hash_Len : Nat := 119
noncomputable abbrev F_sha_Hash_Len : Func := Tryz.f119
theorem h_sha_Hash_Len : Tryz.prog.funcs[f_sha_Hash_Len]? = some F_sha_Hash_Len := Tryz.func119
abbrev t_int : Nat := 3
abbrev t_bool : Nat := 4
abbrev t_uint8 : Nat := 5
abbrev t_string : Nat := 9
abbrev t_a32_uint8 : Nat := 22
abbrev t_api_Digest : Nat := 23
abbrev t_uint64 : Nat := 24
abbrev t_a4_uint64 : Nat := 25
abbrev t_api_Fe : Nat := 26
abbrev t_api_Point : Nat := 28
abbrev t_api_Tag : Nat := 30
abbrev t_api_Amount : Nat := 32
abbrev t_api_Scalar : Nat := 33
abbrev t_api_Opening : Nat := 35
abbrev t_api_Term : Nat := 48
abbrev t_s_api_Term : Nat := 49
abbrev t_tollhouseref03_Num : Nat := 51
abbrev t_a3_uint64 : Nat := 53
abbrev t_tollhouseref03_Mod : Nat := 55
abbrev t_tollhouseref05_jac : Nat := 60
abbrev t_curve_far : Nat := 73
abbrev t_s_uint8 : Nat := 82
abbrev t_api_Key : Nat := 85
abbrev t_s_s_uint8 : Nat := 92
abbrev t_a16_curve_far : Nat := 96
abbrev t_a8_uint64 : Nat := 98
abbrev t_s_uint64 : Nat := 114
abbrev t_uint32 : Nat := 119
abbrev t_a8_uint32 : Nat := 120
abbrev t_sha_state : Nat := 121
abbrev t_sha_Hash : Nat := 124
abbrev t_a64_uint32 : Nat := 128
abbrev g_ref01_table : Nat := 0
abbrev g_sha_table : Nat := 1
def prim0 : Nat → Option Prim
  | 75 => some .add64
  | 60 => some .sub64
  | _ => none
def prim1 : Nat → Option Prim
  | 75 => some .add64
  | 60 => some .sub64
  | 74 => some .mul64
  | _ => none
def rd : Nat → Bool
  | _ => true
def hk : Nat → Nat
  | 3 => 1
  | 5 => 1
  | 6 => 1
  | 13 => 1
  | 17 => 1
  | 20 => 1
  | 36 => 1
  | 42 => 1
  | 58 => 1
  | 63 => 1
  | 64 => 2
  | 79 => 1
  | 80 => 3
  | 81 => 3
  | 82 => 1
  | 85 => 1
  | 86 => 1
  | 97 => 1
  | 99 => 2
  | 104 => 1
  | 106 => 1
  | 107 => 1
  | 108 => 1
  | 109 => 1
  | 110 => 1
  | 111 => 1
  | 112 => 1
  | 113 => 1
  | 114 => 1
  | 115 => 1
  | 116 => 1
  | 117 => 1
  | 118 => 1
  | 119 => 1
  | 120 => 1
  | 125 => 1
  | _ => 0
noncomputable def HHo (A : Hv.Base) (ord : Nat → Option (List Nat)) : Hv.Cfg := ⟨Tryz.prog, A, TT, prim1, hk, ord⟩
noncomputable abbrev HH (A : Hv.Base) : Hv.Cfg := HHo A (fun _ => none)
noncomputable def G0 (W0 : World) : Cfg := ⟨Tryz.prog, W0, TT, prim0, rd⟩
noncomputable def GG (W0 : World) : Cfg := ⟨Tryz.prog, W0, TT, prim1, rd⟩
theorem row2 : RowOk Tryz.prog 2 ⟨false, 1, [.int .i64 0], false, .int .i64⟩ :=
  ⟨by kernel_rfl, by kernel_rfl, by kernel_rfl, by kernel_rfl, (show Tryz.prog.underlying 2 = some (.int .i64) by kernel_rfl), fun h => by cases h⟩
theorem row3 : RowOk Tryz.prog 3 ⟨false, 1, [.int .i64 0], false, .int .i64⟩ :=
  ⟨by kernel_rfl, by kernel_rfl, by kernel_rfl, by kernel_rfl, (show Tryz.prog.underlying 3 = some (.int .i64) by kernel_rfl), fun h => by cases h⟩
theorem row4 : RowOk Tryz.prog 4 ⟨false, 1, [.bool false], false, .bool⟩ :=
  ⟨by kernel_rfl, by kernel_rfl, by kernel_rfl, by kernel_rfl, (show Tryz.prog.underlying 4 = some (.bool) by kernel_rfl), fun h => by cases h⟩
theorem row5 : RowOk Tryz.prog 5 ⟨false, 1, [.int .u8 0], false, .int .u8⟩ :=
  ⟨by kernel_rfl, by kernel_rfl, by kernel_rfl, by kernel_rfl, (show Tryz.prog.underlying 5 = some (.int .u8) by kernel_rfl), fun h => by cases h⟩
theorem row9 : RowOk Tryz.prog 9 ⟨false, 1, [.str ByteArray.empty], false, .string⟩ :=
  ⟨by kernel_rfl, by kernel_rfl, by kernel_rfl, by kernel_rfl, (show Tryz.prog.underlying 9 = some (.string) by kernel_rfl), fun h => by cases h⟩
theorem row22 : RowOk Tryz.prog 22 ⟨true, 32, List.replicate 32 (.int .u8 0), true, .array 32 1 false⟩ :=
  ⟨by kernel_rfl, by kernel_rfl, by kernel_rfl, by kernel_rfl, kArray (by kernel_rfl), fun _ => eqRow_of (ks := List.replicate 32 (some .u8)) (D := 12) (by decide) (by kernel_rfl) (by kernel_rfl) (by kernel_rfl) (by kernel_rfl)⟩
theorem row23 : RowOk Tryz.prog 23 ⟨true, 32, List.replicate 32 (.int .u8 0), true, .array 32 1 false⟩ :=
  ⟨by kernel_rfl, by kernel_rfl, by kernel_rfl, by kernel_rfl, kArray (by kernel_rfl), fun _ => eqRow_of (ks := List.replicate 32 (some .u8)) (D := 12) (by decide) (by kernel_rfl) (by kernel_rfl) (by kernel_rfl) (by kernel_rfl)⟩
theorem row24 : RowOk Tryz.prog 24 ⟨false, 1, [.int .u64 0], false, .int .u64⟩ :=
  ⟨by kernel_rfl, by kernel_rfl, by kernel_rfl, by kernel_rfl, (show Tryz.prog.underlying 24 = some (.int .u64) by kernel_rfl), fun h => by cases h⟩
theorem row25 : RowOk Tryz.prog 25 ⟨true, 4, [.int .u64 0, .int .u64 0, .int .u64 0, .int .u64 0], true, .array 4 1 false⟩ :=
  ⟨by kernel_rfl, by kernel_rfl, by kernel_rfl, by kernel_rfl, kArray (by kernel_rfl), fun _ => eqRow_of (ks := [some .u64, some .u64, some .u64, some .u64]) (D := 12) (by decide) (by kernel_rfl) (by kernel_rfl) (by kernel_rfl) (by kernel_rfl)⟩
theorem row26 : RowOk Tryz.prog 26 ⟨true, 4, [.int .u64 0, .int .u64 0, .int .u64 0, .int .u64 0], true, .array 4 1 false⟩ :=
  ⟨by kernel_rfl, by kernel_rfl, by kernel_rfl, by kernel_rfl, kArray (by kernel_rfl), fun _ => eqRow_of (ks := [some .u64, some .u64, some .u64, some .u64]) (D := 12) (by decide) (by kernel_rfl) (by kernel_rfl) (by kernel_rfl) (by kernel_rfl)⟩
theorem row27 : RowOk Tryz.prog 27 ⟨true, 9, [.int .u64 0, .int .u64 0, .int .u64 0, .int .u64 0, .int .u64 0, .int .u64 0, .int .u64 0, .int .u64 0, .bool false], true, .struct [(0, 4, true), (4, 4, true), (8, 1, false)]⟩ :=
  ⟨by kernel_rfl, by kernel_rfl, by kernel_rfl, by kernel_rfl, kStruct (by kernel_rfl), fun _ => eqRow_of (ks := [some .u64, some .u64, some .u64, some .u64, some .u64, some .u64, some .u64, some .u64, none]) (D := 12) (by decide) (by kernel_rfl) (by kernel_rfl) (by kernel_rfl) (by kernel_rfl)⟩
theorem row28 : RowOk Tryz.prog 28 ⟨true, 9, [.int .u64 0, .int .u64 0, .int .u64 0, .int .u64 0, .int .u64 0, .int .u64 0, .int .u64 0, .int .u64 0, .bool false], true, .struct [(0, 4, true), (4, 4, true), (8, 1, false)]⟩ :=
  ⟨by kernel_rfl, by kernel_rfl, by kernel_rfl, by kernel_rfl, kStruct (by kernel_rfl), fun _ => eqRow_of (ks := [some .u64, some .u64, some .u64, some .u64, some .u64, some .u64, some .u64, some .u64, none]) (D := 12) (by decide) (by kernel_rfl) (by kernel_rfl) (by kernel_rfl) (by kernel_rfl)⟩
theorem row29 : RowOk Tryz.prog 29 ⟨true, 42, [.bool false, .int .u8 0, .int .u8 0, .int .u8 0, .int .u8 0, .int .u8 0, .int .u8 0, .int .u8 0, .int .u8 0, .int .u8 0, .int .u8 0, .int .u8 0, .int .u8 0, .int .u8 0, .int .u8 0, .int .u8 0, .int .u8 0, .int .u8 0, .int .u8 0, .int .u8 0, .int .u8 0, .int .u8 0, .int .u8 0, .int .u8 0, .int .u8 0, .int .u8 0, .int .u8 0, .int .u8 0, .int .u8 0, .int .u8 0, .int .u8 0, .int .u8 0, .int .u8 0, .int .u64 0, .int .u64 0, .int .u64 0, .int .u64 0, .int .u64 0, .int .u64 0, .int .u64 0, .int .u64 0, .bool false], true, .struct [(0, 1, false), (1, 32, true), (33, 9, true)]⟩ :=
  ⟨by kernel_rfl, by kernel_rfl, by kernel_rfl, by kernel_rfl, kStruct (by kernel_rfl), fun _ => eqRow_of (ks := [none, some .u8, some .u8, some .u8, some .u8, some .u8, some .u8, some .u8, some .u8, some .u8, some .u8, some .u8, some .u8, some .u8, some .u8, some .u8, some .u8, some .u8, some .u8, some .u8, some .u8, some .u8, some .u8, some .u8, some .u8, some .u8, some .u8, some .u8, some .u8, some .u8, some .u8, some .u8, some .u8, some .u64, some .u64, some .u64, some .u64, some .u64, some .u64, some .u64, some .u64, none]) (D := 12) (by decide) (by kernel_rfl) (by kernel_rfl) (by kernel_rfl) (by kernel_rfl)⟩
theorem row30 : RowOk Tryz.prog 30 ⟨true, 42, [.bool false, .int .u8 0, .int .u8 0, .int .u8 0, .int .u8 0, .int .u8 0, .int .u8 0, .int .u8 0, .int .u8 0, .int .u8 0, .int .u8 0, .int .u8 0, .int .u8 0, .int .u8 0, .int .u8 0, .int .u8 0, .int .u8 0, .int .u8 0, .int .u8 0, .int .u8 0, .int .u8 0, .int .u8 0, .int .u8 0, .int .u8 0, .int .u8 0, .int .u8 0, .int .u8 0, .int .u8 0, .int .u8 0, .int .u8 0, .int .u8 0, .int .u8 0, .int .u8 0, .int .u64 0, .int .u64 0, .int .u64 0, .int .u64 0, .int .u64 0, .int .u64 0, .int .u64 0, .int .u64 0, .bool false], true, .struct [(0, 1, false), (1, 32, true), (33, 9, true)]⟩ :=
  ⟨by kernel_rfl, by kernel_rfl, by kernel_rfl, by kernel_rfl, kStruct (by kernel_rfl), fun _ => eqRow_of (ks := [none, some .u8, some .u8, some .u8, some .u8, some .u8, some .u8, some .u8, some .u8, some .u8, some .u8, some .u8, some .u8, some .u8, some .u8, some .u8, some .u8, some .u8, some .u8, some .u8, some .u8, some .u8, some .u8, some .u8, some .u8, some .u8, some .u8, some .u8, some .u8, some .u8, some .u8, some .u8, some .u8, some .u64, some .u64, some .u64, some .u64, some .u64, some .u64, some .u64, some .u64, none]) (D := 12) (by decide) (by kernel_rfl) (by kernel_rfl) (by kernel_rfl) (by kernel_rfl)⟩
theorem row31 : RowOk Tryz.prog 31 ⟨true, 11, [.bool false, .int .u64 0, .int .u64 0, .int .u64 0, .int .u64 0, .int .u64 0, .int .u64 0, .int .u64 0, .int .u64 0, .int .u64 0, .bool false], true, .struct [(0, 1, false), (1, 1, false), (2, 9, true)]⟩ :=
  ⟨by kernel_rfl, by kernel_rfl, by kernel_rfl, by kernel_rfl, kStruct (by kernel_rfl), fun _ => eqRow_of (ks := [none, some .u64, some .u64, some .u64, some .u64, some .u64, some .u64, some .u64, some .u64, some .u64, none]) (D := 12) (by decide) (by kernel_rfl) (by kernel_rfl) (by kernel_rfl) (by kernel_rfl)⟩
theorem row32 : RowOk Tryz.prog 32 ⟨true, 11, [.bool false, .int .u64 0, .int .u64 0, .int .u64 0, .int .u64 0, .int .u64 0, .int .u64 0, .int .u64 0, .int .u64 0, .int .u64 0, .bool false], true, .struct [(0, 1, false), (1, 1, false), (2, 9, true)]⟩ :=
  ⟨by kernel_rfl, by kernel_rfl, by kernel_rfl, by kernel_rfl, kStruct (by kernel_rfl), fun _ => eqRow_of (ks := [none, some .u64, some .u64, some .u64, some .u64, some .u64, some .u64, some .u64, some .u64, some .u64, none]) (D := 12) (by decide) (by kernel_rfl) (by kernel_rfl) (by kernel_rfl) (by kernel_rfl)⟩
theorem row33 : RowOk Tryz.prog 33 ⟨true, 4, [.int .u64 0, .int .u64 0, .int .u64 0, .int .u64 0], true, .array 4 1 false⟩ :=
  ⟨by kernel_rfl, by kernel_rfl, by kernel_rfl, by kernel_rfl, kArray (by kernel_rfl), fun _ => eqRow_of (ks := [some .u64, some .u64, some .u64, some .u64]) (D := 12) (by decide) (by kernel_rfl) (by kernel_rfl) (by kernel_rfl) (by kernel_rfl)⟩
theorem row34 : RowOk Tryz.prog 34 ⟨true, 41, [.int .u8 0, .int .u8 0, .int .u8 0, .int .u8 0, .int .u8 0, .int .u8 0, .int .u8 0, .int .u8 0, .int .u8 0, .int .u8 0, .int .u8 0, .int .u8 0, .int .u8 0, .int .u8 0, .int .u8 0, .int .u8 0, .int .u8 0, .int .u8 0, .int .u8 0, .int .u8 0, .int .u8 0, .int .u8 0, .int .u8 0, .int .u8 0, .int .u8 0, .int .u8 0, .int .u8 0, .int .u8 0, .int .u8 0, .int .u8 0, .int .u8 0, .int .u8 0, .int .u64 0, .int .u64 0, .int .u64 0, .int .u64 0, .int .u64 0, .int .u64 0, .int .u64 0, .int .u64 0, .int .u64 0], true, .struct [(0, 32, true), (32, 1, false), (33, 4, true), (37, 4, true)]⟩ :=
  ⟨by kernel_rfl, by kernel_rfl, by kernel_rfl, by kernel_rfl, kStruct (by kernel_rfl), fun _ => eqRow_of (ks := [some .u8, some .u8, some .u8, some .u8, some .u8, some .u8, some .u8, some .u8, some .u8, some .u8, some .u8, some .u8, some .u8, some .u8, some .u8, some .u8, some .u8, some .u8, some .u8, some .u8, some .u8, some .u8, some .u8, some .u8, some .u8, some .u8, some .u8, some .u8, some .u8, some .u8, some .u8, some .u8, some .u64, some .u64, some .u64, some .u64, some .u64, some .u64, some .u64, some .u64, some .u64]) (D := 12) (by decide) (by kernel_rfl) (by kernel_rfl) (by kernel_rfl) (by kernel_rfl)⟩
theorem row35 : RowOk Tryz.prog 35 ⟨true, 41, [.int .u8 0, .int .u8 0, .int .u8 0, .int .u8 0, .int .u8 0, .int .u8 0, .int .u8 0, .int .u8 0, .int .u8 0, .int .u8 0, .int .u8 0, .int .u8 0, .int .u8 0, .int .u8 0, .int .u8 0, .int .u8 0, .int .u8 0, .int .u8 0, .int .u8 0, .int .u8 0, .int .u8 0, .int .u8 0, .int .u8 0, .int .u8 0, .int .u8 0, .int .u8 0, .int .u8 0, .int .u8 0, .int .u8 0, .int .u8 0, .int .u8 0, .int .u8 0, .int .u64 0, .int .u64 0, .int .u64 0, .int .u64 0, .int .u64 0, .int .u64 0, .int .u64 0, .int .u64 0, .int .u64 0], true, .struct [(0, 32, true), (32, 1, false), (33, 4, true), (37, 4, true)]⟩ :=
  ⟨by kernel_rfl, by kernel_rfl, by kernel_rfl, by kernel_rfl, kStruct (by kernel_rfl), fun _ => eqRow_of (ks := [some .u8, some .u8, some .u8, some .u8, some .u8, some .u8, some .u8, some .u8, some .u8, some .u8, some .u8, some .u8, some .u8, some .u8, some .u8, some .u8, some .u8, some .u8, some .u8, some .u8, some .u8, some .u8, some .u8, some .u8, some .u8, some .u8, some .u8, some .u8, some .u8, some .u8, some .u8, some .u8, some .u64, some .u64, some .u64, some .u64, some .u64, some .u64, some .u64, some .u64, some .u64]) (D := 12) (by decide) (by kernel_rfl) (by kernel_rfl) (by kernel_rfl) (by kernel_rfl)⟩
theorem row47 : RowOk Tryz.prog 47 ⟨true, 13, [.int .u64 0, .int .u64 0, .int .u64 0, .int .u64 0, .int .u64 0, .int .u64 0, .int .u64 0, .int .u64 0, .int .u64 0, .int .u64 0, .int .u64 0, .int .u64 0, .bool false], true, .struct [(0, 4, true), (4, 9, true)]⟩ :=
  ⟨by kernel_rfl, by kernel_rfl, by kernel_rfl, by kernel_rfl, kStruct (by kernel_rfl), fun _ => eqRow_of (ks := [some .u64, some .u64, some .u64, some .u64, some .u64, some .u64, some .u64, some .u64, some .u64, some .u64, some .u64, some .u64, none]) (D := 12) (by decide) (by kernel_rfl) (by kernel_rfl) (by kernel_rfl) (by kernel_rfl)⟩
theorem row48 : RowOk Tryz.prog 48 ⟨true, 13, [.int .u64 0, .int .u64 0, .int .u64 0, .int .u64 0, .int .u64 0, .int .u64 0, .int .u64 0, .int .u64 0, .int .u64 0, .int .u64 0, .int .u64 0, .int .u64 0, .bool false], true, .struct [(0, 4, true), (4, 9, true)]⟩ :=
  ⟨by kernel_rfl, by kernel_rfl, by kernel_rfl, by kernel_rfl, kStruct (by kernel_rfl), fun _ => eqRow_of (ks := [some .u64, some .u64, some .u64, some .u64, some .u64, some .u64, some .u64, some .u64, some .u64, some .u64, some .u64, some .u64, none]) (D := 12) (by decide) (by kernel_rfl) (by kernel_rfl) (by kernel_rfl) (by kernel_rfl)⟩
theorem row49 : RowOk Tryz.prog 49 ⟨false, 1, [.slice none 0 0], false, .slice 48 13 104 true⟩ :=
  ⟨by kernel_rfl, by kernel_rfl, by kernel_rfl, by kernel_rfl, kSlice (by kernel_rfl), fun h => by cases h⟩
theorem row51 : RowOk Tryz.prog 51 ⟨true, 4, [.int .u64 0, .int .u64 0, .int .u64 0, .int .u64 0], true, .array 4 1 false⟩ :=
  ⟨by kernel_rfl, by kernel_rfl, by kernel_rfl, by kernel_rfl, kArray (by kernel_rfl), fun _ => eqRow_of (ks := [some .u64, some .u64, some .u64, some .u64]) (D := 12) (by decide) (by kernel_rfl) (by kernel_rfl) (by kernel_rfl) (by kernel_rfl)⟩
theorem row53 : RowOk Tryz.prog 53 ⟨true, 3, [.int .u64 0, .int .u64 0, .int .u64 0], true, .array 3 1 false⟩ :=
  ⟨by kernel_rfl, by kernel_rfl, by kernel_rfl, by kernel_rfl, kArray (by kernel_rfl), fun _ => eqRow_of (ks := [some .u64, some .u64, some .u64]) (D := 12) (by decide) (by kernel_rfl) (by kernel_rfl) (by kernel_rfl) (by kernel_rfl)⟩
theorem row54 : RowOk Tryz.prog 54 ⟨true, 7, List.replicate 7 (.int .u64 0), true, .struct [(0, 4, true), (4, 3, true)]⟩ :=
  ⟨by kernel_rfl, by kernel_rfl, by kernel_rfl, by kernel_rfl, kStruct (by kernel_rfl), fun _ => eqRow_of (ks := List.replicate 7 (some .u64)) (D := 12) (by decide) (by kernel_rfl) (by kernel_rfl) (by kernel_rfl) (by kernel_rfl)⟩
theorem row55 : RowOk Tryz.prog 55 ⟨true, 7, List.replicate 7 (.int .u64 0), true, .struct [(0, 4, true), (4, 3, true)]⟩ :=
  ⟨by kernel_rfl, by kernel_rfl, by kernel_rfl, by kernel_rfl, kStruct (by kernel_rfl), fun _ => eqRow_of (ks := List.replicate 7 (some .u64)) (D := 12) (by decide) (by kernel_rfl) (by kernel_rfl) (by kernel_rfl) (by kernel_rfl)⟩
theorem row59 : RowOk Tryz.prog 59 ⟨true, 12, List.replicate 12 (.int .u64 0), true, .struct [(0, 4, true), (4, 4, true), (8, 4, true)]⟩ :=
  ⟨by kernel_rfl, by kernel_rfl, by kernel_rfl, by kernel_rfl, kStruct (by kernel_rfl), fun _ => eqRow_of (ks := List.replicate 12 (some .u64)) (D := 12) (by decide) (by kernel_rfl) (by kernel_rfl) (by kernel_rfl) (by kernel_rfl)⟩
theorem row60 : RowOk Tryz.prog 60 ⟨true, 12, List.replicate 12 (.int .u64 0), true, .struct [(0, 4, true), (4, 4, true), (8, 4, true)]⟩ :=
  ⟨by kernel_rfl, by kernel_rfl, by kernel_rfl, by kernel_rfl, kStruct (by kernel_rfl), fun _ => eqRow_of (ks := List.replicate 12 (some .u64)) (D := 12) (by decide) (by kernel_rfl) (by kernel_rfl) (by kernel_rfl) (by kernel_rfl)⟩
theorem row72 : RowOk Tryz.prog 72 ⟨true, 12, List.replicate 12 (.int .u64 0), true, .struct [(0, 4, true), (4, 4, true), (8, 4, true)]⟩ :=
  ⟨by kernel_rfl, by kernel_rfl, by kernel_rfl, by kernel_rfl, kStruct (by kernel_rfl), fun _ => eqRow_of (ks := List.replicate 12 (some .u64)) (D := 12) (by decide) (by kernel_rfl) (by kernel_rfl) (by kernel_rfl) (by kernel_rfl)⟩
theorem row73 : RowOk Tryz.prog 73 ⟨true, 12, List.replicate 12 (.int .u64 0), true, .struct [(0, 4, true), (4, 4, true), (8, 4, true)]⟩ :=
  ⟨by kernel_rfl, by kernel_rfl, by kernel_rfl, by kernel_rfl, kStruct (by kernel_rfl), fun _ => eqRow_of (ks := List.replicate 12 (some .u64)) (D := 12) (by decide) (by kernel_rfl) (by kernel_rfl) (by kernel_rfl) (by kernel_rfl)⟩
theorem row82 : RowOk Tryz.prog 82 ⟨false, 1, [.slice none 0 0], false, .slice 5 1 1 false⟩ :=
  ⟨by kernel_rfl, by kernel_rfl, by kernel_rfl, by kernel_rfl, kSlice (by kernel_rfl), fun h => by cases h⟩
theorem row85 : RowOk Tryz.prog 85 ⟨true, 32, List.replicate 32 (.int .u8 0), true, .array 32 1 false⟩ :=
  ⟨by kernel_rfl, by kernel_rfl, by kernel_rfl, by kernel_rfl, kArray (by kernel_rfl), fun _ => eqRow_of (ks := List.replicate 32 (some .u8)) (D := 12) (by decide) (by kernel_rfl) (by kernel_rfl) (by kernel_rfl) (by kernel_rfl)⟩
theorem row92 : RowOk Tryz.prog 92 ⟨false, 1, [.slice none 0 0], false, .slice 82 1 24 false⟩ :=
  ⟨by kernel_rfl, by kernel_rfl, by kernel_rfl, by kernel_rfl, kSlice (by kernel_rfl), fun h => by cases h⟩
theorem row96 : RowOk Tryz.prog 96 ⟨true, 192, List.replicate 192 (.int .u64 0), true, .array 16 12 true⟩ :=
  ⟨by kernel_rfl, by kernel_rfl, by kernel_rfl, by kernel_rfl, kArray (by kernel_rfl), fun _ => eqRow_of (ks := List.replicate 192 (some .u64)) (D := 12) (by decide) (by kernel_rfl) (by kernel_rfl) (by kernel_rfl) (by kernel_rfl)⟩
theorem row98 : RowOk Tryz.prog 98 ⟨true, 8, List.replicate 8 (.int .u64 0), true, .array 8 1 false⟩ :=
  ⟨by kernel_rfl, by kernel_rfl, by kernel_rfl, by kernel_rfl, kArray (by kernel_rfl), fun _ => eqRow_of (ks := List.replicate 8 (some .u64)) (D := 12) (by decide) (by kernel_rfl) (by kernel_rfl) (by kernel_rfl) (by kernel_rfl)⟩
theorem row102 : RowOk Tryz.prog 102 ⟨false, 1, [.ptr none], false, .other⟩ :=
  ⟨by kernel_rfl, by kernel_rfl, by kernel_rfl, by kernel_rfl, trivial, fun h => by cases h⟩
theorem row114 : RowOk Tryz.prog 114 ⟨false, 1, [.slice none 0 0], false, .slice 24 1 8 false⟩ :=
  ⟨by kernel_rfl, by kernel_rfl, by kernel_rfl, by kernel_rfl, kSlice (by kernel_rfl), fun h => by cases h⟩
theorem row118 : RowOk Tryz.prog 118 ⟨false, 1, [.int .u64 0], false, .int .u64⟩ :=
  ⟨by kernel_rfl, by kernel_rfl, by kernel_rfl, by kernel_rfl, (show Tryz.prog.underlying 118 = some (.int .u64) by kernel_rfl), fun h => by cases h⟩
theorem row119 : RowOk Tryz.prog 119 ⟨false, 1, [.int .u32 0], false, .int .u32⟩ :=
  ⟨by kernel_rfl, by kernel_rfl, by kernel_rfl, by kernel_rfl, (show Tryz.prog.underlying 119 = some (.int .u32) by kernel_rfl), fun h => by cases h⟩
theorem row120 : RowOk Tryz.prog 120 ⟨true, 8, List.replicate 8 (.int .u32 0), true, .array 8 1 false⟩ :=
  ⟨by kernel_rfl, by kernel_rfl, by kernel_rfl, by kernel_rfl, kArray (by kernel_rfl), fun _ => eqRow_of (ks := List.replicate 8 (some .u32)) (D := 12) (by decide) (by kernel_rfl) (by kernel_rfl) (by kernel_rfl) (by kernel_rfl)⟩
theorem row121 : RowOk Tryz.prog 121 ⟨true, 8, List.replicate 8 (.int .u32 0), true, .array 8 1 false⟩ :=
  ⟨by kernel_rfl, by kernel_rfl, by kernel_rfl, by kernel_rfl, kArray (by kernel_rfl), fun _ => eqRow_of (ks := List.replicate 8 (some .u32)) (D := 12) (by decide) (by kernel_rfl) (by kernel_rfl) (by kernel_rfl) (by kernel_rfl)⟩
theorem row123 : RowOk Tryz.prog 123 ⟨true, 10, [.int .u32 0, .int .u32 0, .int .u32 0, .int .u32 0, .int .u32 0, .int .u32 0, .int .u32 0, .int .u32 0, .slice none 0 0, .int .i64 0], false, .struct [(0, 8, true), (8, 1, false), (9, 1, false)]⟩ :=
  ⟨by kernel_rfl, by kernel_rfl, by kernel_rfl, by kernel_rfl, kStruct (by kernel_rfl), fun h => by cases h⟩
theorem row124 : RowOk Tryz.prog 124 ⟨true, 10, [.int .u32 0, .int .u32 0, .int .u32 0, .int .u32 0, .int .u32 0, .int .u32 0, .int .u32 0, .int .u32 0, .slice none 0 0, .int .i64 0], false, .struct [(0, 8, true), (8, 1, false), (9, 1, false)]⟩ :=
  ⟨by kernel_rfl, by kernel_rfl, by kernel_rfl, by kernel_rfl, kStruct (by kernel_rfl), fun h => by cases h⟩
theorem row128 : RowOk Tryz.prog 128 ⟨true, 64, List.replicate 64 (.int .u32 0), true, .array 64 1 false⟩ :=
  ⟨by kernel_rfl, by kernel_rfl, by kernel_rfl, by kernel_rfl, kArray (by kernel_rfl), fun _ => eqRow_of (ks := List.replicate 64 (some .u32)) (D := 12) (by decide) (by kernel_rfl) (by kernel_rfl) (by kernel_rfl) (by kernel_rfl)⟩
theorem row131 : RowOk Tryz.prog 131 ⟨true, 4, [.ptr none, .ptr none, .ptr none, .str ByteArray.empty], false, .struct [(0, 1, false), (1, 1, false), (2, 1, false), (3, 1, false)]⟩ :=
  ⟨by kernel_rfl, by kernel_rfl, by kernel_rfl, by kernel_rfl, kStruct (by kernel_rfl), fun h => by cases h⟩
theorem row132 : RowOk Tryz.prog 132 ⟨true, 4, [.ptr none, .ptr none, .ptr none, .str ByteArray.empty], false, .struct [(0, 1, false), (1, 1, false), (2, 1, false), (3, 1, false)]⟩ :=
  ⟨by kernel_rfl, by kernel_rfl, by kernel_rfl, by kernel_rfl, kStruct (by kernel_rfl), fun h => by cases h⟩
theorem row133 : RowOk Tryz.prog 133 ⟨true, 0, [], false, .array 0 1 false⟩ :=
  ⟨by kernel_rfl, by kernel_rfl, by kernel_rfl, by kernel_rfl, kArray (by kernel_rfl), fun h => by cases h⟩
theorem row137 : RowOk Tryz.prog 137 ⟨false, 1, [.int .u8 0], false, .int .u8⟩ :=
  ⟨by kernel_rfl, by kernel_rfl, by kernel_rfl, by kernel_rfl, (show Tryz.prog.underlying 137 = some (.int .u8) by kernel_rfl), fun h => by cases h⟩
theorem row138 : RowOk Tryz.prog 138 ⟨false, 1, [.int .u8 0], false, .int .u8⟩ :=
  ⟨by kernel_rfl, by kernel_rfl, by kernel_rfl, by kernel_rfl, (show Tryz.prog.underlying 138 = some (.int .u8) by kernel_rfl), fun h => by cases h⟩
theorem row140 : RowOk Tryz.prog 140 ⟨false, 1, [.ptr none], false, .other⟩ :=
  ⟨by kernel_rfl, by kernel_rfl, by kernel_rfl, by kernel_rfl, trivial, fun h => by cases h⟩
theorem row141 : RowOk Tryz.prog 141 ⟨false, 1, [.int .i32 0], false, .int .i32⟩ :=
  ⟨by kernel_rfl, by kernel_rfl, by kernel_rfl, by kernel_rfl, (show Tryz.prog.underlying 141 = some (.int .i32) by kernel_rfl), fun h => by cases h⟩
theorem row142 : RowOk Tryz.prog 142 ⟨false, 1, [.int .i32 0], false, .int .i32⟩ :=
  ⟨by kernel_rfl, by kernel_rfl, by kernel_rfl, by kernel_rfl, (show Tryz.prog.underlying 142 = some (.int .i32) by kernel_rfl), fun h => by cases h⟩
theorem row143 : RowOk Tryz.prog 143 ⟨true, 11, [.int .u64 0, .int .u64 0, .int .u32 0, .int .u8 0, .int .u8 0, .int .u8 0, .int .u8 0, .raw .nilFunc, .ptr none, .int .i32 0, .int .i32 0], false, .struct [(0, 1, false), (1, 1, false), (2, 1, false), (3, 1, false), (4, 1, false), (5, 1, false), (6, 1, false), (7, 1, false), (8, 1, false), (9, 1, false), (10, 1, false)]⟩ :=
  ⟨by kernel_rfl, by kernel_rfl, by kernel_rfl, by kernel_rfl, kStruct (by kernel_rfl), fun h => by cases h⟩
theorem row144 : RowOk Tryz.prog 144 ⟨true, 11, [.int .u64 0, .int .u64 0, .int .u32 0, .int .u8 0, .int .u8 0, .int .u8 0, .int .u8 0, .raw .nilFunc, .ptr none, .int .i32 0, .int .i32 0], false, .struct [(0, 1, false), (1, 1, false), (2, 1, false), (3, 1, false), (4, 1, false), (5, 1, false), (6, 1, false), (7, 1, false), (8, 1, false), (9, 1, false), (10, 1, false)]⟩ :=
  ⟨by kernel_rfl, by kernel_rfl, by kernel_rfl, by kernel_rfl, kStruct (by kernel_rfl), fun h => by cases h⟩
theorem tysOk : TysOk Tryz.prog TT := tysOk_of (by
  unfold TT
  simp only [List.forall_mem_cons]
  exact ⟨row2, row3, row4, row5, row9, row22, row23, row24, row25, row26, row27, row28, row29, row30, row31, row32, row33, row34, row35, row47, row48, row49, row51, row53, row54, row55, row59, row60, row72, row73, row82, row85, row92, row96, row98, row102, row114, row118, row119, row120, row121, row123, row124, row128, row131, row132, row133, row137, row138, row140, row141, row142, row143, row144, fun _ h => by cases h⟩)
theorem p_add64 (W0 : World) : PrimOk Tryz.prog W0 75 .add64 := primOk_add64 Tryz.func75 (by kernel_rfl) (by kernel_rfl) (by kernel_rfl) (by kernel_rfl)
theorem p_sub64 (W0 : World) : PrimOk Tryz.prog W0 60 .sub64 := primOk_sub64 Tryz.func60 (by kernel_rfl) (by kernel_rfl) (by kernel_rfl) (by kernel_rfl)
theorem g0Ok (W0 : World) : CfgOk (G0 W0) := ⟨tysOk, (fun f p h => by
  change prim0 f = some p at h
  unfold prim0 at h
  split at h
  · simp only [Option.some.injEq] at h; subst h; exact p_add64 W0
  · simp only [Option.some.injEq] at h; subst h; exact p_sub64 W0
  · cases h), by kernel_rfl⟩
theorem hhOk (hm : ∀ W0, PrimOk Tryz.prog W0 74 .mul64) (A : Hv.Base) (ord : Nat → Option (List Nat)) : Hv.CfgOk (HHo A ord) := ⟨tysOk, (fun f p h W0 => by
  change prim1 f = some p at h
  unfold prim1 at h
  split at h
  · simp only [Option.some.injEq] at h; subst h; exact p_add64 W0
  · simp only [Option.some.injEq] at h; subst h; exact p_sub64 W0
  · simp only [Option.some.injEq] at h; subst h; exact hm W0
  · cases h), by kernel_rfl⟩
theorem ggOk (hm : ∀ W0, PrimOk Tryz.prog W0 74 .mul64) (W0 : World) : CfgOk (GG W0) := ⟨tysOk, (fun f p h => by
  change prim1 f = some p at h
  unfold prim1 at h
  split at h
  · simp only [Option.some.injEq] at h; subst h; exact p_add64 W0
  · simp only [Option.some.injEq] at h; subst h; exact p_sub64 W0
  · simp only [Option.some.injEq] at h; subst h; exact hm W0
  · cases h), by kernel_rfl⟩
end Go.Ev
