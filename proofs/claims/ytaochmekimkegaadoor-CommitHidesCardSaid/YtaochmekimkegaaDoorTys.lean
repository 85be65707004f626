/- The types of this seat's program as the walk asks for them, each held against the program; its functions' numbers by their names. Written by a program of this session (tools/tys.py). -/
import Derived.Test.YtaochmekimkegaaDoorEvA
import Derived.Test.YtaochmekimkegaaDoorHvA
import Derived.Test.YtaochmekimkegaaDoorChecked
namespace Go.Ev
open Go.Proofs
def TT : Tys := [
  (2, ⟨false, 1, [.int .i64 0], false, .int .i64⟩),
  (3, ⟨false, 1, [.int .i64 0], false, .int .i64⟩),
  (4, ⟨false, 1, [.bool false], false, .bool⟩),
  (5, ⟨false, 1, [.int .u8 0], false, .int .u8⟩),
  (9, ⟨false, 1, [.str ByteArray.empty], false, .string⟩),
  (22, ⟨true, 32, List.replicate 32 (.int .u8 0), true, .array 32 1 false⟩),
  (23, ⟨true, 32, List.replicate 32 (.int .u8 0), true, .array 32 1 false⟩),
  (24, ⟨false, 1, [.int .u64 0], false, .int .u64⟩),
  (25, ⟨true, 2, [.int .u64 0, .int .u64 0], true, .array 2 1 false⟩),
  (26, ⟨true, 4, [.int .u64 0, .int .u64 0, .int .u64 0, .int .u64 0], true, .array 4 1 false⟩),
  (27, ⟨true, 4, [.int .u64 0, .int .u64 0, .int .u64 0, .int .u64 0], true, .array 4 1 false⟩),
  (28, ⟨true, 12, List.replicate 12 (.int .u64 0), true, .array 3 4 true⟩),
  (30, ⟨true, 4, [.int .u64 0, .int .u64 0, .int .u64 0, .int .u64 0], true, .array 4 1 false⟩),
  (31, ⟨true, 9, [.int .u64 0, .int .u64 0, .int .u64 0, .int .u64 0, .int .u64 0, .int .u64 0, .int .u64 0, .int .u64 0, .bool false], true, .struct [(0, 4, true), (4, 4, true), (8, 1, false)]⟩),
  (32, ⟨true, 9, [.int .u64 0, .int .u64 0, .int .u64 0, .int .u64 0, .int .u64 0, .int .u64 0, .int .u64 0, .int .u64 0, .bool false], true, .struct [(0, 4, true), (4, 4, true), (8, 1, false)]⟩),
  (37, ⟨false, 1, [.slice none 0 0], false, .slice 32 9 72 true⟩),
  (39, ⟨true, 41, [.int .u8 0, .int .u8 0, .int .u8 0, .int .u8 0, .int .u8 0, .int .u8 0, .int .u8 0, .int .u8 0, .int .u8 0, .int .u8 0, .int .u8 0, .int .u8 0, .int .u8 0, .int .u8 0, .int .u8 0, .int .u8 0, .int .u8 0, .int .u8 0, .int .u8 0, .int .u8 0, .int .u8 0, .int .u8 0, .int .u8 0, .int .u8 0, .int .u8 0, .int .u8 0, .int .u8 0, .int .u8 0, .int .u8 0, .int .u8 0, .int .u8 0, .int .u8 0, .int .u64 0, .int .u64 0, .int .u64 0, .int .u64 0, .int .u64 0, .int .u64 0, .int .u64 0, .int .u64 0, .int .u64 0], true, .struct [(0, 32, true), (32, 1, false), (33, 4, true), (37, 4, true)]⟩),
  (40, ⟨true, 41, [.int .u8 0, .int .u8 0, .int .u8 0, .int .u8 0, .int .u8 0, .int .u8 0, .int .u8 0, .int .u8 0, .int .u8 0, .int .u8 0, .int .u8 0, .int .u8 0, .int .u8 0, .int .u8 0, .int .u8 0, .int .u8 0, .int .u8 0, .int .u8 0, .int .u8 0, .int .u8 0, .int .u8 0, .int .u8 0, .int .u8 0, .int .u8 0, .int .u8 0, .int .u8 0, .int .u8 0, .int .u8 0, .int .u8 0, .int .u8 0, .int .u8 0, .int .u8 0, .int .u64 0, .int .u64 0, .int .u64 0, .int .u64 0, .int .u64 0, .int .u64 0, .int .u64 0, .int .u64 0, .int .u64 0], true, .struct [(0, 32, true), (32, 1, false), (33, 4, true), (37, 4, true)]⟩),
  (41, ⟨true, 42, [.bool false, .int .u8 0, .int .u8 0, .int .u8 0, .int .u8 0, .int .u8 0, .int .u8 0, .int .u8 0, .int .u8 0, .int .u8 0, .int .u8 0, .int .u8 0, .int .u8 0, .int .u8 0, .int .u8 0, .int .u8 0, .int .u8 0, .int .u8 0, .int .u8 0, .int .u8 0, .int .u8 0, .int .u8 0, .int .u8 0, .int .u8 0, .int .u8 0, .int .u8 0, .int .u8 0, .int .u8 0, .int .u8 0, .int .u8 0, .int .u8 0, .int .u8 0, .int .u8 0, .int .u64 0, .int .u64 0, .int .u64 0, .int .u64 0, .int .u64 0, .int .u64 0, .int .u64 0, .int .u64 0, .bool false], true, .struct [(0, 1, false), (1, 32, true), (33, 9, true)]⟩),
  (42, ⟨true, 42, [.bool false, .int .u8 0, .int .u8 0, .int .u8 0, .int .u8 0, .int .u8 0, .int .u8 0, .int .u8 0, .int .u8 0, .int .u8 0, .int .u8 0, .int .u8 0, .int .u8 0, .int .u8 0, .int .u8 0, .int .u8 0, .int .u8 0, .int .u8 0, .int .u8 0, .int .u8 0, .int .u8 0, .int .u8 0, .int .u8 0, .int .u8 0, .int .u8 0, .int .u8 0, .int .u8 0, .int .u8 0, .int .u8 0, .int .u8 0, .int .u8 0, .int .u8 0, .int .u8 0, .int .u64 0, .int .u64 0, .int .u64 0, .int .u64 0, .int .u64 0, .int .u64 0, .int .u64 0, .int .u64 0, .bool false], true, .struct [(0, 1, false), (1, 32, true), (33, 9, true)]⟩),
  (43, ⟨true, 11, [.bool false, .int .u64 0, .int .u64 0, .int .u64 0, .int .u64 0, .int .u64 0, .int .u64 0, .int .u64 0, .int .u64 0, .int .u64 0, .bool false], true, .struct [(0, 1, false), (1, 1, false), (2, 9, true)]⟩),
  (44, ⟨true, 11, [.bool false, .int .u64 0, .int .u64 0, .int .u64 0, .int .u64 0, .int .u64 0, .int .u64 0, .int .u64 0, .int .u64 0, .int .u64 0, .bool false], true, .struct [(0, 1, false), (1, 1, false), (2, 9, true)]⟩),
  (57, ⟨true, 13, [.int .u64 0, .int .u64 0, .int .u64 0, .int .u64 0, .int .u64 0, .int .u64 0, .int .u64 0, .int .u64 0, .int .u64 0, .int .u64 0, .int .u64 0, .int .u64 0, .bool false], true, .struct [(0, 4, true), (4, 9, true)]⟩),
  (58, ⟨true, 13, [.int .u64 0, .int .u64 0, .int .u64 0, .int .u64 0, .int .u64 0, .int .u64 0, .int .u64 0, .int .u64 0, .int .u64 0, .int .u64 0, .int .u64 0, .int .u64 0, .bool false], true, .struct [(0, 4, true), (4, 9, true)]⟩),
  (59, ⟨false, 1, [.slice none 0 0], false, .slice 58 13 104 true⟩),
  (61, ⟨true, 4, [.int .u64 0, .int .u64 0, .int .u64 0, .int .u64 0], true, .array 4 1 false⟩),
  (63, ⟨true, 3, [.int .u64 0, .int .u64 0, .int .u64 0], true, .array 3 1 false⟩),
  (64, ⟨true, 7, List.replicate 7 (.int .u64 0), true, .struct [(0, 4, true), (4, 3, true)]⟩),
  (65, ⟨true, 7, List.replicate 7 (.int .u64 0), true, .struct [(0, 4, true), (4, 3, true)]⟩),
  (77, ⟨true, 12, List.replicate 12 (.int .u64 0), true, .struct [(0, 4, true), (4, 4, true), (8, 4, true)]⟩),
  (78, ⟨true, 12, List.replicate 12 (.int .u64 0), true, .struct [(0, 4, true), (4, 4, true), (8, 4, true)]⟩),
  (83, ⟨true, 12, List.replicate 12 (.int .u64 0), true, .struct [(0, 4, true), (4, 4, true), (8, 4, true)]⟩),
  (84, ⟨true, 12, List.replicate 12 (.int .u64 0), true, .struct [(0, 4, true), (4, 4, true), (8, 4, true)]⟩),
  (88, ⟨false, 1, [.slice none 0 0], false, .slice 5 1 1 false⟩),
  (91, ⟨true, 32, List.replicate 32 (.int .u8 0), true, .array 32 1 false⟩),
  (93, ⟨true, 8, List.replicate 8 (.int .u64 0), true, .array 8 1 false⟩),
  (99, ⟨false, 1, [.slice none 0 0], false, .slice 88 1 24 false⟩),
  (111, ⟨false, 1, [.ptr none], false, .other⟩),
  (118, ⟨true, 192, List.replicate 192 (.int .u64 0), true, .array 16 12 true⟩),
  (127, ⟨false, 1, [.slice none 0 0], false, .slice 24 1 8 false⟩),
  (131, ⟨false, 1, [.int .u32 0], false, .int .u32⟩),
  (132, ⟨true, 8, List.replicate 8 (.int .u32 0), true, .array 8 1 false⟩),
  (133, ⟨true, 8, List.replicate 8 (.int .u32 0), true, .array 8 1 false⟩),
  (135, ⟨true, 10, [.int .u32 0, .int .u32 0, .int .u32 0, .int .u32 0, .int .u32 0, .int .u32 0, .int .u32 0, .int .u32 0, .slice none 0 0, .int .i64 0], false, .struct [(0, 8, true), (8, 1, false), (9, 1, false)]⟩),
  (136, ⟨true, 10, [.int .u32 0, .int .u32 0, .int .u32 0, .int .u32 0, .int .u32 0, .int .u32 0, .int .u32 0, .int .u32 0, .slice none 0 0, .int .i64 0], false, .struct [(0, 8, true), (8, 1, false), (9, 1, false)]⟩),
  (138, ⟨false, 1, [.int .u64 0], false, .int .u64⟩),
  (141, ⟨true, 64, List.replicate 64 (.int .u32 0), true, .array 64 1 false⟩),
  (144, ⟨true, 4, [.ptr none, .ptr none, .ptr none, .str ByteArray.empty], false, .struct [(0, 1, false), (1, 1, false), (2, 1, false), (3, 1, false)]⟩),
  (145, ⟨true, 4, [.ptr none, .ptr none, .ptr none, .str ByteArray.empty], false, .struct [(0, 1, false), (1, 1, false), (2, 1, false), (3, 1, false)]⟩),
  (146, ⟨true, 0, [], false, .array 0 1 false⟩),
  (150, ⟨false, 1, [.int .u8 0], false, .int .u8⟩),
  (151, ⟨false, 1, [.int .u8 0], false, .int .u8⟩),
  (153, ⟨false, 1, [.ptr none], false, .other⟩),
  (154, ⟨false, 1, [.int .i32 0], false, .int .i32⟩),
  (155, ⟨false, 1, [.int .i32 0], false, .int .i32⟩),
  (156, ⟨true, 11, [.int .u64 0, .int .u64 0, .int .u32 0, .int .u8 0, .int .u8 0, .int .u8 0, .int .u8 0, .raw .nilFunc, .ptr none, .int .i32 0, .int .i32 0], false, .struct [(0, 1, false), (1, 1, false), (2, 1, false), (3, 1, false), (4, 1, false), (5, 1, false), (6, 1, false), (7, 1, false), (8, 1, false), (9, 1, false), (10, 1, false)]⟩),
  (157, ⟨true, 11, [.int .u64 0, .int .u64 0, .int .u32 0, .int .u8 0, .int .u8 0, .int .u8 0, .int .u8 0, .raw .nilFunc, .ptr none, .int .i32 0, .int .i32 0], false, .struct [(0, 1, false), (1, 1, false), (2, 1, false), (3, 1, false), (4, 1, false), (5, 1, false), (6, 1, false), (7, 1, false), (8, 1, false), (9, 1, false), (10, 1, false)]⟩)]
noncomputable abbrev PG : Program := Tryd.prog
abbrev f_law07_CommitSums : Nat := 3
noncomputable abbrev F_law07_CommitSums : Func := Tryd.f3
theorem h_law07_CommitSums : Tryd.prog.funcs[f_law07_CommitSums]? = some F_law07_CommitSums := Tryd.func3
abbrev f_law07_CommitHides : Nat := 4
noncomputable abbrev F_law07_CommitHides : Func := Tryd.f4
theorem h_law07_CommitHides : Tryd.prog.funcs[f_law07_CommitHides]? = some F_law07_CommitHides := Tryd.func4
abbrev f_law07_alive : Nat := 5
noncomputable abbrev F_law07_alive : Func := Tryd.f5
theorem h_law07_alive : Tryd.prog.funcs[f_law07_alive]? = some F_law07_alive := Tryd.func5
abbrev f_commit_Asset : Nat := 6
noncomputable abbrev F_commit_Asset : Func := Tryd.f6
theorem h_commit_Asset : Tryd.prog.funcs[f_commit_Asset]? = some F_commit_Asset := Tryd.func6
abbrev f_commit_Value : Nat := 7
noncomputable abbrev F_commit_Value : Func := Tryd.f7
theorem h_commit_Value : Tryd.prog.funcs[f_commit_Value]? = some F_commit_Value := Tryd.func7
abbrev f_ref05_AddScalar : Nat := 8
noncomputable abbrev F_ref05_AddScalar : Func := Tryd.f8
theorem h_ref05_AddScalar : Tryd.prog.funcs[f_ref05_AddScalar]? = some F_ref05_AddScalar := Tryd.func8
abbrev f_commit_Balanced : Nat := 9
noncomputable abbrev F_commit_Balanced : Func := Tryd.f9
theorem h_commit_Balanced : Tryd.prog.funcs[f_commit_Balanced]? = some F_commit_Balanced := Tryd.func9
abbrev f_commit_Tag : Nat := 10
noncomputable abbrev F_commit_Tag : Func := Tryd.f10
theorem h_commit_Tag : Tryd.prog.funcs[f_commit_Tag]? = some F_commit_Tag := Tryd.func10
abbrev f_commit_Amount : Nat := 11
noncomputable abbrev F_commit_Amount : Func := Tryd.f11
theorem h_commit_Amount : Tryd.prog.funcs[f_commit_Amount]? = some F_commit_Amount := Tryd.func11
abbrev f_ref07_Value : Nat := 12
noncomputable abbrev F_ref07_Value : Func := Tryd.f12
theorem h_ref07_Value : Tryd.prog.funcs[f_ref07_Value]? = some F_ref07_Value := Tryd.func12
abbrev f_ref07_Asset : Nat := 13
noncomputable abbrev F_ref07_Asset : Func := Tryd.f13
theorem h_ref07_Asset : Tryd.prog.funcs[f_ref07_Asset]? = some F_ref07_Asset := Tryd.func13
abbrev f_commit_RightTag : Nat := 14
noncomputable abbrev F_commit_RightTag : Func := Tryd.f14
theorem h_commit_RightTag : Tryd.prog.funcs[f_commit_RightTag]? = some F_commit_RightTag := Tryd.func14
abbrev f_commit_RightAmount : Nat := 15
noncomputable abbrev F_commit_RightAmount : Func := Tryd.f15
theorem h_commit_RightAmount : Tryd.prog.funcs[f_commit_RightAmount]? = some F_commit_RightAmount := Tryd.func15
abbrev f_commit_Opens : Nat := 16
noncomputable abbrev F_commit_Opens : Func := Tryd.f16
theorem h_commit_Opens : Tryd.prog.funcs[f_commit_Opens]? = some F_commit_Opens := Tryd.func16
abbrev f_ref05_Base : Nat := 17
noncomputable abbrev F_ref05_Base : Func := Tryd.f17
theorem h_ref05_Base : Tryd.prog.funcs[f_ref05_Base]? = some F_ref05_Base := Tryd.func17
abbrev f_ref05_Zero : Nat := 18
noncomputable abbrev F_ref05_Zero : Func := Tryd.f18
theorem h_ref05_Zero : Tryd.prog.funcs[f_ref05_Zero]? = some F_ref05_Zero := Tryd.func18
abbrev f_ref05_Mul : Nat := 19
noncomputable abbrev F_ref05_Mul : Func := Tryd.f19
theorem h_ref05_Mul : Tryd.prog.funcs[f_ref05_Mul]? = some F_ref05_Mul := Tryd.func19
abbrev f_curve_Add : Nat := 20
noncomputable abbrev F_curve_Add : Func := Tryd.f20
theorem h_curve_Add : Tryd.prog.funcs[f_curve_Add]? = some F_curve_Add := Tryd.func20
abbrev f_curve_Generator : Nat := 21
noncomputable abbrev F_curve_Generator : Func := Tryd.f21
theorem h_curve_Generator : Tryd.prog.funcs[f_curve_Generator]? = some F_curve_Generator := Tryd.func21
abbrev f_curve_Mul : Nat := 22
noncomputable abbrev F_curve_Mul : Func := Tryd.f22
theorem h_curve_Mul : Tryd.prog.funcs[f_curve_Mul]? = some F_curve_Mul := Tryd.func22
abbrev f_curve_Base : Nat := 23
noncomputable abbrev F_curve_Base : Func := Tryd.f23
theorem h_curve_Base : Tryd.prog.funcs[f_curve_Base]? = some F_curve_Base := Tryd.func23
abbrev f_curve_Multi : Nat := 24
noncomputable abbrev F_curve_Multi : Func := Tryd.f24
theorem h_curve_Multi : Tryd.prog.funcs[f_curve_Multi]? = some F_curve_Multi := Tryd.func24
abbrev f_scalar_Of : Nat := 25
noncomputable abbrev F_scalar_Of : Func := Tryd.f25
theorem h_scalar_Of : Tryd.prog.funcs[f_scalar_Of]? = some F_scalar_Of := Tryd.func25
abbrev f_ref03_Scalar : Nat := 26
noncomputable abbrev F_ref03_Scalar : Func := Tryd.f26
theorem h_ref03_Scalar : Tryd.prog.funcs[f_ref03_Scalar]? = some F_ref03_Scalar := Tryd.func26
abbrev f_ref03_Add : Nat := 27
noncomputable abbrev F_ref03_Add : Func := Tryd.f27
theorem h_ref03_Add : Tryd.prog.funcs[f_ref03_Add]? = some F_ref03_Add := Tryd.func27
abbrev f_ref03_N : Nat := 28
noncomputable abbrev F_ref03_N : Func := Tryd.f28
theorem h_ref03_N : Tryd.prog.funcs[f_ref03_N]? = some F_ref03_N := Tryd.func28
abbrev f_ref03_OfScalar : Nat := 29
noncomputable abbrev F_ref03_OfScalar : Func := Tryd.f29
theorem h_ref03_OfScalar : Tryd.prog.funcs[f_ref03_OfScalar]? = some F_ref03_OfScalar := Tryd.func29
abbrev f_curve_Sum : Nat := 30
noncomputable abbrev F_curve_Sum : Func := Tryd.f30
theorem h_curve_Sum : Tryd.prog.funcs[f_curve_Sum]? = some F_curve_Sum := Tryd.func30
abbrev f_slices_Values___api_Point_api_Point_ : Nat := 31
noncomputable abbrev F_slices_Values___api_Point_api_Point_ : Func := Tryd.f31
theorem h_slices_Values___api_Point_api_Point_ : Tryd.prog.funcs[f_slices_Values___api_Point_api_Point_]? = some F_slices_Values___api_Point_api_Point_ := Tryd.func31
abbrev f_ref05_Add : Nat := 32
noncomputable abbrev F_ref05_Add : Func := Tryd.f32
theorem h_ref05_Add : Tryd.prog.funcs[f_ref05_Add]? = some F_ref05_Add := Tryd.func32
abbrev f_ref05_Generator : Nat := 33
noncomputable abbrev F_ref05_Generator : Func := Tryd.f33
theorem h_ref05_Generator : Tryd.prog.funcs[f_ref05_Generator]? = some F_ref05_Generator := Tryd.func33
abbrev f_commit_point : Nat := 34
noncomputable abbrev F_commit_point : Func := Tryd.f34
theorem h_commit_point : Tryd.prog.funcs[f_commit_point]? = some F_commit_point := Tryd.func34
abbrev f_scalar_Norm : Nat := 35
noncomputable abbrev F_scalar_Norm : Func := Tryd.f35
theorem h_scalar_Norm : Tryd.prog.funcs[f_scalar_Norm]? = some F_scalar_Norm := Tryd.func35
abbrev f_ref05_Taken : Nat := 36
noncomputable abbrev F_ref05_Taken : Func := Tryd.f36
theorem h_ref05_Taken : Tryd.prog.funcs[f_ref05_Taken]? = some F_ref05_Taken := Tryd.func36
abbrev f_ref03_Norm : Nat := 37
noncomputable abbrev F_ref03_Norm : Func := Tryd.f37
theorem h_ref03_Norm : Tryd.prog.funcs[f_ref03_Norm]? = some F_ref03_Norm := Tryd.func37
abbrev f_ref03_Of : Nat := 38
noncomputable abbrev F_ref03_Of : Func := Tryd.f38
theorem h_ref03_Of : Tryd.prog.funcs[f_ref03_Of]? = some F_ref03_Of := Tryd.func38
abbrev f_ref05_twice : Nat := 39
noncomputable abbrev F_ref05_twice : Func := Tryd.f39
theorem h_ref05_twice : Tryd.prog.funcs[f_ref05_twice]? = some F_ref05_twice := Tryd.func39
abbrev f_ref05_plus : Nat := 40
noncomputable abbrev F_ref05_plus : Func := Tryd.f40
theorem h_ref05_plus : Tryd.prog.funcs[f_ref05_plus]? = some F_ref05_plus := Tryd.func40
abbrev f_ref03_Inv : Nat := 41
noncomputable abbrev F_ref03_Inv : Func := Tryd.f41
theorem h_ref03_Inv : Tryd.prog.funcs[f_ref03_Inv]? = some F_ref03_Inv := Tryd.func41
abbrev f_ref03_P : Nat := 42
noncomputable abbrev F_ref03_P : Func := Tryd.f42
theorem h_ref03_P : Tryd.prog.funcs[f_ref03_P]? = some F_ref03_P := Tryd.func42
abbrev f_ref05_mul : Nat := 43
noncomputable abbrev F_ref05_mul : Func := Tryd.f43
theorem h_ref05_mul : Tryd.prog.funcs[f_ref05_mul]? = some F_ref05_mul := Tryd.func43
abbrev f_ref05_point : Nat := 44
noncomputable abbrev F_ref05_point : Func := Tryd.f44
theorem h_ref05_point : Tryd.prog.funcs[f_ref05_point]? = some F_ref05_point := Tryd.func44
abbrev f_curve_out : Nat := 45
noncomputable abbrev F_curve_out : Func := Tryd.f45
theorem h_curve_out : Tryd.prog.funcs[f_curve_out]? = some F_curve_out := Tryd.func45
abbrev f_curve_far_plus : Nat := 46
noncomputable abbrev F_curve_far_plus : Func := Tryd.f46
theorem h_curve_far_plus : Tryd.prog.funcs[f_curve_far_plus]? = some F_curve_far_plus := Tryd.func46
abbrev f_curve_far_home : Nat := 47
noncomputable abbrev F_curve_far_home : Func := Tryd.f47
theorem h_curve_far_home : Tryd.prog.funcs[f_curve_far_home]? = some F_curve_far_home := Tryd.func47
abbrev f_sha_Tagged : Nat := 48
noncomputable abbrev F_sha_Tagged : Func := Tryd.f48
theorem h_sha_Tagged : Tryd.prog.funcs[f_sha_Tagged]? = some F_sha_Tagged := Tryd.func48
abbrev f_curve_Lift : Nat := 49
noncomputable abbrev F_curve_Lift : Func := Tryd.f49
theorem h_curve_Lift : Tryd.prog.funcs[f_curve_Lift]? = some F_curve_Lift := Tryd.func49
abbrev f_curve_far_times : Nat := 50
noncomputable abbrev F_curve_far_times : Func := Tryd.f50
theorem h_curve_far_times : Tryd.prog.funcs[f_curve_far_times]? = some F_curve_far_times := Tryd.func50
abbrev f_bits_Add64 : Nat := 51
noncomputable abbrev F_bits_Add64 : Func := Tryd.f51
theorem h_bits_Add64 : Tryd.prog.funcs[f_bits_Add64]? = some F_bits_Add64 := Tryd.func51
abbrev f_ref03_fold : Nat := 52
noncomputable abbrev F_ref03_fold : Func := Tryd.f52
theorem h_ref03_fold : Tryd.prog.funcs[f_ref03_fold]? = some F_ref03_fold := Tryd.func52
abbrev f_slices_Values___api_Point_api_Point__1 : Nat := 53
noncomputable abbrev F_slices_Values___api_Point_api_Point__1 : Func := Tryd.f53
theorem h_slices_Values___api_Point_api_Point__1 : Tryd.prog.funcs[f_slices_Values___api_Point_api_Point__1]? = some F_slices_Values___api_Point_api_Point__1 := Tryd.func53
abbrev f_ref05_sub : Nat := 54
noncomputable abbrev F_ref05_sub : Func := Tryd.f54
theorem h_ref05_sub : Tryd.prog.funcs[f_ref05_sub]? = some F_ref05_sub := Tryd.func54
abbrev f_ref05_add : Nat := 55
noncomputable abbrev F_ref05_add : Func := Tryd.f55
theorem h_ref05_add : Tryd.prog.funcs[f_ref05_add]? = some F_ref05_add := Tryd.func55
abbrev f_ref01_Tagged : Nat := 56
noncomputable abbrev F_ref01_Tagged : Func := Tryd.f56
theorem h_ref01_Tagged : Tryd.prog.funcs[f_ref01_Tagged]? = some F_ref01_Tagged := Tryd.func56
abbrev f_ref01_Text : Nat := 57
noncomputable abbrev F_ref01_Text : Func := Tryd.f57
theorem h_ref01_Text : Tryd.prog.funcs[f_ref01_Text]? = some F_ref01_Text := Tryd.func57
abbrev f_ref05_Lift : Nat := 58
noncomputable abbrev F_ref05_Lift : Func := Tryd.f58
theorem h_ref05_Lift : Tryd.prog.funcs[f_ref05_Lift]? = some F_ref05_Lift := Tryd.func58
abbrev f_curve_Right : Nat := 59
noncomputable abbrev F_curve_Right : Func := Tryd.f59
theorem h_curve_Right : Tryd.prog.funcs[f_curve_Right]? = some F_curve_Right := Tryd.func59
abbrev f_curve_Zero : Nat := 60
noncomputable abbrev F_curve_Zero : Func := Tryd.f60
theorem h_curve_Zero : Tryd.prog.funcs[f_curve_Zero]? = some F_curve_Zero := Tryd.func60
abbrev f_scalar_minus : Nat := 61
noncomputable abbrev F_scalar_minus : Func := Tryd.f61
theorem h_scalar_minus : Tryd.prog.funcs[f_scalar_minus]? = some F_scalar_minus := Tryd.func61
abbrev f_scalar_order : Nat := 62
noncomputable abbrev F_scalar_order : Func := Tryd.f62
theorem h_scalar_order : Tryd.prog.funcs[f_scalar_order]? = some F_scalar_order := Tryd.func62
abbrev f_ref05_Right : Nat := 63
noncomputable abbrev F_ref05_Right : Func := Tryd.f63
theorem h_ref05_Right : Tryd.prog.funcs[f_ref05_Right]? = some F_ref05_Right := Tryd.func63
abbrev f_ref03_below : Nat := 64
noncomputable abbrev F_ref03_below : Func := Tryd.f64
theorem h_ref03_below : Tryd.prog.funcs[f_ref03_below]? = some F_ref03_below := Tryd.func64
abbrev f_ref03_minus : Nat := 65
noncomputable abbrev F_ref03_minus : Func := Tryd.f65
theorem h_ref03_minus : Tryd.prog.funcs[f_ref03_minus]? = some F_ref03_minus := Tryd.func65
abbrev f_ref03_Small : Nat := 66
noncomputable abbrev F_ref03_Small : Func := Tryd.f66
theorem h_ref03_Small : Tryd.prog.funcs[f_ref03_Small]? = some F_ref03_Small := Tryd.func66
abbrev f_ref03_Power : Nat := 67
noncomputable abbrev F_ref03_Power : Func := Tryd.f67
theorem h_ref03_Power : Tryd.prog.funcs[f_ref03_Power]? = some F_ref03_Power := Tryd.func67
abbrev f_ref03_Mul : Nat := 68
noncomputable abbrev F_ref03_Mul : Func := Tryd.f68
theorem h_ref03_Mul : Tryd.prog.funcs[f_ref03_Mul]? = some F_ref03_Mul := Tryd.func68
abbrev f_ref03_Fe : Nat := 69
noncomputable abbrev F_ref03_Fe : Func := Tryd.f69
theorem h_ref03_Fe : Tryd.prog.funcs[f_ref03_Fe]? = some F_ref03_Fe := Tryd.func69
abbrev f_fe_Of : Nat := 70
noncomputable abbrev F_fe_Of : Func := Tryd.f70
theorem h_fe_Of : Tryd.prog.funcs[f_fe_Of]? = some F_fe_Of := Tryd.func70
abbrev f_fe_Mul : Nat := 71
noncomputable abbrev F_fe_Mul : Func := Tryd.f71
theorem h_fe_Mul : Tryd.prog.funcs[f_fe_Mul]? = some F_fe_Mul := Tryd.func71
abbrev f_fe_Sub : Nat := 72
noncomputable abbrev F_fe_Sub : Func := Tryd.f72
theorem h_fe_Sub : Tryd.prog.funcs[f_fe_Sub]? = some F_fe_Sub := Tryd.func72
abbrev f_curve_far_twice : Nat := 73
noncomputable abbrev F_curve_far_twice : Func := Tryd.f73
theorem h_curve_far_twice : Tryd.prog.funcs[f_curve_far_twice]? = some F_curve_far_twice := Tryd.func73
abbrev f_fe_Add : Nat := 74
noncomputable abbrev F_fe_Add : Func := Tryd.f74
theorem h_fe_Add : Tryd.prog.funcs[f_fe_Add]? = some F_fe_Add := Tryd.func74
abbrev f_fe_Inv : Nat := 75
noncomputable abbrev F_fe_Inv : Func := Tryd.f75
theorem h_fe_Inv : Tryd.prog.funcs[f_fe_Inv]? = some F_fe_Inv := Tryd.func75
abbrev f_sha_Of : Nat := 76
noncomputable abbrev F_sha_Of : Func := Tryd.f76
theorem h_sha_Of : Tryd.prog.funcs[f_sha_Of]? = some F_sha_Of := Tryd.func76
abbrev f_sha_New : Nat := 77
noncomputable abbrev F_sha_New : Func := Tryd.f77
theorem h_sha_New : Tryd.prog.funcs[f_sha_New]? = some F_sha_New := Tryd.func77
abbrev f_sha_Hash_Write : Nat := 78
noncomputable abbrev F_sha_Hash_Write : Func := Tryd.f78
theorem h_sha_Hash_Write : Tryd.prog.funcs[f_sha_Hash_Write]? = some F_sha_Hash_Write := Tryd.func78
abbrev f_sha_Hash_Sum : Nat := 79
noncomputable abbrev F_sha_Hash_Sum : Func := Tryd.f79
theorem h_sha_Hash_Sum : Tryd.prog.funcs[f_sha_Hash_Sum]? = some F_sha_Hash_Sum := Tryd.func79
abbrev f_fe_Read : Nat := 80
noncomputable abbrev F_fe_Read : Func := Tryd.f80
theorem h_fe_Read : Tryd.prog.funcs[f_fe_Read]? = some F_fe_Read := Tryd.func80
abbrev f_fe_Sqrt : Nat := 81
noncomputable abbrev F_fe_Sqrt : Func := Tryd.f81
theorem h_fe_Sqrt : Tryd.prog.funcs[f_fe_Sqrt]? = some F_fe_Sqrt := Tryd.func81
abbrev f_curve_cube : Nat := 82
noncomputable abbrev F_curve_cube : Func := Tryd.f82
theorem h_curve_cube : Tryd.prog.funcs[f_curve_cube]? = some F_curve_cube := Tryd.func82
abbrev f_bits_Mul64 : Nat := 83
noncomputable abbrev F_bits_Mul64 : Func := Tryd.f83
theorem h_bits_Mul64 : Tryd.prog.funcs[f_bits_Mul64]? = some F_bits_Mul64 := Tryd.func83
abbrev f_ref03_Sub : Nat := 84
noncomputable abbrev F_ref03_Sub : Func := Tryd.f84
theorem h_ref03_Sub : Tryd.prog.funcs[f_ref03_Sub]? = some F_ref03_Sub := Tryd.func84
abbrev f_ref01_Of : Nat := 85
noncomputable abbrev F_ref01_Of : Func := Tryd.f85
theorem h_ref01_Of : Tryd.prog.funcs[f_ref01_Of]? = some F_ref01_Of := Tryd.func85
abbrev f_ref03_Number : Nat := 86
noncomputable abbrev F_ref03_Number : Func := Tryd.f86
theorem h_ref03_Number : Tryd.prog.funcs[f_ref03_Number]? = some F_ref03_Number := Tryd.func86
abbrev f_ref03_Sqrt : Nat := 87
noncomputable abbrev F_ref03_Sqrt : Func := Tryd.f87
theorem h_ref03_Sqrt : Tryd.prog.funcs[f_ref03_Sqrt]? = some F_ref03_Sqrt := Tryd.func87
abbrev f_ref05_cube : Nat := 88
noncomputable abbrev F_ref05_cube : Func := Tryd.f88
theorem h_ref05_cube : Tryd.prog.funcs[f_ref05_cube]? = some F_ref05_cube := Tryd.func88
abbrev f_ref03_Right : Nat := 89
noncomputable abbrev F_ref03_Right : Func := Tryd.f89
theorem h_ref03_Right : Tryd.prog.funcs[f_ref03_Right]? = some F_ref03_Right := Tryd.func89
abbrev f_fe_Norm : Nat := 90
noncomputable abbrev F_fe_Norm : Func := Tryd.f90
theorem h_fe_Norm : Tryd.prog.funcs[f_fe_Norm]? = some F_fe_Norm := Tryd.func90
abbrev f_bits_Sub64 : Nat := 91
noncomputable abbrev F_bits_Sub64 : Func := Tryd.f91
theorem h_bits_Sub64 : Tryd.prog.funcs[f_bits_Sub64]? = some F_bits_Sub64 := Tryd.func91
abbrev f_fe_times : Nat := 92
noncomputable abbrev F_fe_times : Func := Tryd.f92
theorem h_fe_times : Tryd.prog.funcs[f_fe_times]? = some F_fe_times := Tryd.func92
abbrev f_fe_plus : Nat := 93
noncomputable abbrev F_fe_plus : Func := Tryd.f93
theorem h_fe_plus : Tryd.prog.funcs[f_fe_plus]? = some F_fe_plus := Tryd.func93
abbrev f_fe_Neg : Nat := 94
noncomputable abbrev F_fe_Neg : Func := Tryd.f94
theorem h_fe_Neg : Tryd.prog.funcs[f_fe_Neg]? = some F_fe_Neg := Tryd.func94
abbrev f_fe_minus : Nat := 95
noncomputable abbrev F_fe_minus : Func := Tryd.f95
theorem h_fe_minus : Tryd.prog.funcs[f_fe_minus]? = some F_fe_minus := Tryd.func95
abbrev f_fe_prime : Nat := 96
noncomputable abbrev F_fe_prime : Func := Tryd.f96
theorem h_fe_prime : Tryd.prog.funcs[f_fe_prime]? = some F_fe_prime := Tryd.func96
abbrev f_fe_power : Nat := 97
noncomputable abbrev F_fe_power : Func := Tryd.f97
theorem h_fe_power : Tryd.prog.funcs[f_fe_power]? = some F_fe_power := Tryd.func97
abbrev f_sha_begun : Nat := 98
noncomputable abbrev F_sha_begun : Func := Tryd.f98
theorem h_sha_begun : Tryd.prog.funcs[f_sha_begun]? = some F_sha_begun := Tryd.func98
abbrev f_sha_state_mixed : Nat := 99
noncomputable abbrev F_sha_state_mixed : Func := Tryd.f99
theorem h_sha_state_mixed : Tryd.prog.funcs[f_sha_state_mixed]? = some F_sha_state_mixed := Tryd.func99
abbrev f_fe_Odd : Nat := 100
noncomputable abbrev F_fe_Odd : Func := Tryd.f100
theorem h_fe_Odd : Tryd.prog.funcs[f_fe_Odd]? = some F_fe_Odd := Tryd.func100
abbrev f_curve_seven : Nat := 101
noncomputable abbrev F_curve_seven : Func := Tryd.f101
theorem h_curve_seven : Tryd.prog.funcs[f_curve_seven]? = some F_curve_seven := Tryd.func101
abbrev f_ref03_Neg : Nat := 102
noncomputable abbrev F_ref03_Neg : Func := Tryd.f102
theorem h_ref03_Neg : Tryd.prog.funcs[f_ref03_Neg]? = some F_ref03_Neg := Tryd.func102
abbrev f_ref01_Padded : Nat := 103
noncomputable abbrev F_ref01_Padded : Func := Tryd.f103
theorem h_ref01_Padded : Tryd.prog.funcs[f_ref01_Padded]? = some F_ref01_Padded := Tryd.func103
abbrev f_ref01_rot : Nat := 104
noncomputable abbrev F_ref01_rot : Func := Tryd.f104
theorem h_ref01_rot : Tryd.prog.funcs[f_ref01_rot]? = some F_ref01_rot := Tryd.func104
abbrev f_ref03_add : Nat := 105
noncomputable abbrev F_ref03_add : Func := Tryd.f105
theorem h_ref03_add : Tryd.prog.funcs[f_ref03_add]? = some F_ref03_add := Tryd.func105
abbrev f_sha_turn : Nat := 106
noncomputable abbrev F_sha_turn : Func := Tryd.f106
theorem h_sha_turn : Tryd.prog.funcs[f_sha_turn]? = some F_sha_turn := Tryd.func106
abbrev f_bits_RotateLeft32 : Nat := 107
noncomputable abbrev F_bits_RotateLeft32 : Func := Tryd.f107
theorem h_bits_RotateLeft32 : Tryd.prog.funcs[f_bits_RotateLeft32]? = some F_bits_RotateLeft32 := Tryd.func107
abbrev f_sha_Hash_Len : Nat := 123
noncomputable abbrev F_sha_Hash_Len : Func := Tryd.f123
theorem h_sha_Hash_Len : Tryd.prog.funcs[f_sha_Hash_Len]? = some F_sha_Hash_Len := Tryd.func123
abbrev t_int : Nat := 3
abbrev t_bool : Nat := 4
abbrev t_uint8 : Nat := 5
abbrev t_string : Nat := 9
abbrev t_a32_uint8 : Nat := 22
abbrev t_api_Digest : Nat := 23
abbrev t_uint64 : Nat := 24
abbrev t_a2_uint64 : Nat := 25
abbrev t_a4_uint64 : Nat := 26
abbrev t_api_Scalar : Nat := 27
abbrev t_a3_api_Scalar : Nat := 28
abbrev t_api_Fe : Nat := 30
abbrev t_api_Point : Nat := 32
abbrev t_s_api_Point : Nat := 37
abbrev t_api_Opening : Nat := 40
abbrev t_api_Tag : Nat := 42
abbrev t_api_Amount : Nat := 44
abbrev t_api_Term : Nat := 58
abbrev t_s_api_Term : Nat := 59
abbrev t_tollhouseref03_Num : Nat := 61
abbrev t_a3_uint64 : Nat := 63
abbrev t_tollhouseref03_Mod : Nat := 65
abbrev t_tollhouseref05_jac : Nat := 78
abbrev t_curve_far : Nat := 84
abbrev t_s_uint8 : Nat := 88
abbrev t_api_Key : Nat := 91
abbrev t_a8_uint64 : Nat := 93
abbrev t_s_s_uint8 : Nat := 99
abbrev t_a16_curve_far : Nat := 118
abbrev t_s_uint64 : Nat := 127
abbrev t_uint32 : Nat := 131
abbrev t_a8_uint32 : Nat := 132
abbrev t_sha_state : Nat := 133
abbrev t_sha_Hash : Nat := 136
abbrev t_a64_uint32 : Nat := 141
abbrev g_ref01_table : Nat := 0
abbrev g_sha_table : Nat := 1
def prim0 : Nat → Option Prim
  | 51 => some .add64
  | 91 => some .sub64
  | _ => none
def prim1 : Nat → Option Prim
  | 51 => some .add64
  | 91 => some .sub64
  | 83 => some .mul64
  | _ => none
def rd : Nat → Bool
  | _ => true
def hk : Nat → Nat
  | 3 => 1
  | 4 => 1
  | 6 => 1
  | 9 => 1
  | 10 => 1
  | 11 => 1
  | 13 => 1
  | 16 => 1
  | 21 => 1
  | 24 => 1
  | 30 => 1
  | 31 => 1
  | 33 => 1
  | 48 => 1
  | 53 => 1
  | 56 => 1
  | 57 => 2
  | 76 => 1
  | 77 => 3
  | 78 => 3
  | 79 => 1
  | 85 => 1
  | 86 => 1
  | 99 => 1
  | 103 => 2
  | 108 => 1
  | 110 => 1
  | 111 => 1
  | 112 => 1
  | 113 => 1
  | 114 => 1
  | 115 => 1
  | 116 => 1
  | 117 => 1
  | 118 => 1
  | 119 => 1
  | 120 => 1
  | 121 => 1
  | 122 => 1
  | 123 => 1
  | 124 => 1
  | 129 => 1
  | _ => 0
noncomputable def HHo (A : Hv.Base) (ord : Nat → Option (List Nat)) : Hv.Cfg := ⟨Tryd.prog, A, TT, prim1, hk, ord⟩
noncomputable abbrev HH (A : Hv.Base) : Hv.Cfg := HHo A (fun _ => none)
noncomputable def G0 (W0 : World) : Cfg := ⟨Tryd.prog, W0, TT, prim0, rd⟩
noncomputable def GG (W0 : World) : Cfg := ⟨Tryd.prog, W0, TT, prim1, rd⟩
theorem row2 : RowOk Tryd.prog 2 ⟨false, 1, [.int .i64 0], false, .int .i64⟩ :=
  ⟨by kernel_rfl, by kernel_rfl, by kernel_rfl, by kernel_rfl, (show Tryd.prog.underlying 2 = some (.int .i64) by kernel_rfl), fun h => by cases h⟩
theorem row3 : RowOk Tryd.prog 3 ⟨false, 1, [.int .i64 0], false, .int .i64⟩ :=
  ⟨by kernel_rfl, by kernel_rfl, by kernel_rfl, by kernel_rfl, (show Tryd.prog.underlying 3 = some (.int .i64) by kernel_rfl), fun h => by cases h⟩
theorem row4 : RowOk Tryd.prog 4 ⟨false, 1, [.bool false], false, .bool⟩ :=
  ⟨by kernel_rfl, by kernel_rfl, by kernel_rfl, by kernel_rfl, (show Tryd.prog.underlying 4 = some (.bool) by kernel_rfl), fun h => by cases h⟩
theorem row5 : RowOk Tryd.prog 5 ⟨false, 1, [.int .u8 0], false, .int .u8⟩ :=
  ⟨by kernel_rfl, by kernel_rfl, by kernel_rfl, by kernel_rfl, (show Tryd.prog.underlying 5 = some (.int .u8) by kernel_rfl), fun h => by cases h⟩
theorem row9 : RowOk Tryd.prog 9 ⟨false, 1, [.str ByteArray.empty], false, .string⟩ :=
  ⟨by kernel_rfl, by kernel_rfl, by kernel_rfl, by kernel_rfl, (show Tryd.prog.underlying 9 = some (.string) by kernel_rfl), fun h => by cases h⟩
theorem row22 : RowOk Tryd.prog 22 ⟨true, 32, List.replicate 32 (.int .u8 0), true, .array 32 1 false⟩ :=
  ⟨by kernel_rfl, by kernel_rfl, by kernel_rfl, by kernel_rfl, kArray (by kernel_rfl), fun _ => eqRow_of (ks := List.replicate 32 (some .u8)) (D := 12) (by decide) (by kernel_rfl) (by kernel_rfl) (by kernel_rfl) (by kernel_rfl)⟩
theorem row23 : RowOk Tryd.prog 23 ⟨true, 32, List.replicate 32 (.int .u8 0), true, .array 32 1 false⟩ :=
  ⟨by kernel_rfl, by kernel_rfl, by kernel_rfl, by kernel_rfl, kArray (by kernel_rfl), fun _ => eqRow_of (ks := List.replicate 32 (some .u8)) (D := 12) (by decide) (by kernel_rfl) (by kernel_rfl) (by kernel_rfl) (by kernel_rfl)⟩
theorem row24 : RowOk Tryd.prog 24 ⟨false, 1, [.int .u64 0], false, .int .u64⟩ :=
  ⟨by kernel_rfl, by kernel_rfl, by kernel_rfl, by kernel_rfl, (show Tryd.prog.underlying 24 = some (.int .u64) by kernel_rfl), fun h => by cases h⟩
theorem row25 : RowOk Tryd.prog 25 ⟨true, 2, [.int .u64 0, .int .u64 0], true, .array 2 1 false⟩ :=
  ⟨by kernel_rfl, by kernel_rfl, by kernel_rfl, by kernel_rfl, kArray (by kernel_rfl), fun _ => eqRow_of (ks := [some .u64, some .u64]) (D := 12) (by decide) (by kernel_rfl) (by kernel_rfl) (by kernel_rfl) (by kernel_rfl)⟩
theorem row26 : RowOk Tryd.prog 26 ⟨true, 4, [.int .u64 0, .int .u64 0, .int .u64 0, .int .u64 0], true, .array 4 1 false⟩ :=
  ⟨by kernel_rfl, by kernel_rfl, by kernel_rfl, by kernel_rfl, kArray (by kernel_rfl), fun _ => eqRow_of (ks := [some .u64, some .u64, some .u64, some .u64]) (D := 12) (by decide) (by kernel_rfl) (by kernel_rfl) (by kernel_rfl) (by kernel_rfl)⟩
theorem row27 : RowOk Tryd.prog 27 ⟨true, 4, [.int .u64 0, .int .u64 0, .int .u64 0, .int .u64 0], true, .array 4 1 false⟩ :=
  ⟨by kernel_rfl, by kernel_rfl, by kernel_rfl, by kernel_rfl, kArray (by kernel_rfl), fun _ => eqRow_of (ks := [some .u64, some .u64, some .u64, some .u64]) (D := 12) (by decide) (by kernel_rfl) (by kernel_rfl) (by kernel_rfl) (by kernel_rfl)⟩
theorem row28 : RowOk Tryd.prog 28 ⟨true, 12, List.replicate 12 (.int .u64 0), true, .array 3 4 true⟩ :=
  ⟨by kernel_rfl, by kernel_rfl, by kernel_rfl, by kernel_rfl, kArray (by kernel_rfl), fun _ => eqRow_of (ks := List.replicate 12 (some .u64)) (D := 12) (by decide) (by kernel_rfl) (by kernel_rfl) (by kernel_rfl) (by kernel_rfl)⟩
theorem row30 : RowOk Tryd.prog 30 ⟨true, 4, [.int .u64 0, .int .u64 0, .int .u64 0, .int .u64 0], true, .array 4 1 false⟩ :=
  ⟨by kernel_rfl, by kernel_rfl, by kernel_rfl, by kernel_rfl, kArray (by kernel_rfl), fun _ => eqRow_of (ks := [some .u64, some .u64, some .u64, some .u64]) (D := 12) (by decide) (by kernel_rfl) (by kernel_rfl) (by kernel_rfl) (by kernel_rfl)⟩
theorem row31 : RowOk Tryd.prog 31 ⟨true, 9, [.int .u64 0, .int .u64 0, .int .u64 0, .int .u64 0, .int .u64 0, .int .u64 0, .int .u64 0, .int .u64 0, .bool false], true, .struct [(0, 4, true), (4, 4, true), (8, 1, false)]⟩ :=
  ⟨by kernel_rfl, by kernel_rfl, by kernel_rfl, by kernel_rfl, kStruct (by kernel_rfl), fun _ => eqRow_of (ks := [some .u64, some .u64, some .u64, some .u64, some .u64, some .u64, some .u64, some .u64, none]) (D := 12) (by decide) (by kernel_rfl) (by kernel_rfl) (by kernel_rfl) (by kernel_rfl)⟩
theorem row32 : RowOk Tryd.prog 32 ⟨true, 9, [.int .u64 0, .int .u64 0, .int .u64 0, .int .u64 0, .int .u64 0, .int .u64 0, .int .u64 0, .int .u64 0, .bool false], true, .struct [(0, 4, true), (4, 4, true), (8, 1, false)]⟩ :=
  ⟨by kernel_rfl, by kernel_rfl, by kernel_rfl, by kernel_rfl, kStruct (by kernel_rfl), fun _ => eqRow_of (ks := [some .u64, some .u64, some .u64, some .u64, some .u64, some .u64, some .u64, some .u64, none]) (D := 12) (by decide) (by kernel_rfl) (by kernel_rfl) (by kernel_rfl) (by kernel_rfl)⟩
theorem row37 : RowOk Tryd.prog 37 ⟨false, 1, [.slice none 0 0], false, .slice 32 9 72 true⟩ :=
  ⟨by kernel_rfl, by kernel_rfl, by kernel_rfl, by kernel_rfl, kSlice (by kernel_rfl), fun h => by cases h⟩
theorem row39 : RowOk Tryd.prog 39 ⟨true, 41, [.int .u8 0, .int .u8 0, .int .u8 0, .int .u8 0, .int .u8 0, .int .u8 0, .int .u8 0, .int .u8 0, .int .u8 0, .int .u8 0, .int .u8 0, .int .u8 0, .int .u8 0, .int .u8 0, .int .u8 0, .int .u8 0, .int .u8 0, .int .u8 0, .int .u8 0, .int .u8 0, .int .u8 0, .int .u8 0, .int .u8 0, .int .u8 0, .int .u8 0, .int .u8 0, .int .u8 0, .int .u8 0, .int .u8 0, .int .u8 0, .int .u8 0, .int .u8 0, .int .u64 0, .int .u64 0, .int .u64 0, .int .u64 0, .int .u64 0, .int .u64 0, .int .u64 0, .int .u64 0, .int .u64 0], true, .struct [(0, 32, true), (32, 1, false), (33, 4, true), (37, 4, true)]⟩ :=
  ⟨by kernel_rfl, by kernel_rfl, by kernel_rfl, by kernel_rfl, kStruct (by kernel_rfl), fun _ => eqRow_of (ks := [some .u8, some .u8, some .u8, some .u8, some .u8, some .u8, some .u8, some .u8, some .u8, some .u8, some .u8, some .u8, some .u8, some .u8, some .u8, some .u8, some .u8, some .u8, some .u8, some .u8, some .u8, some .u8, some .u8, some .u8, some .u8, some .u8, some .u8, some .u8, some .u8, some .u8, some .u8, some .u8, some .u64, some .u64, some .u64, some .u64, some .u64, some .u64, some .u64, some .u64, some .u64]) (D := 12) (by decide) (by kernel_rfl) (by kernel_rfl) (by kernel_rfl) (by kernel_rfl)⟩
theorem row40 : RowOk Tryd.prog 40 ⟨true, 41, [.int .u8 0, .int .u8 0, .int .u8 0, .int .u8 0, .int .u8 0, .int .u8 0, .int .u8 0, .int .u8 0, .int .u8 0, .int .u8 0, .int .u8 0, .int .u8 0, .int .u8 0, .int .u8 0, .int .u8 0, .int .u8 0, .int .u8 0, .int .u8 0, .int .u8 0, .int .u8 0, .int .u8 0, .int .u8 0, .int .u8 0, .int .u8 0, .int .u8 0, .int .u8 0, .int .u8 0, .int .u8 0, .int .u8 0, .int .u8 0, .int .u8 0, .int .u8 0, .int .u64 0, .int .u64 0, .int .u64 0, .int .u64 0, .int .u64 0, .int .u64 0, .int .u64 0, .int .u64 0, .int .u64 0], true, .struct [(0, 32, true), (32, 1, false), (33, 4, true), (37, 4, true)]⟩ :=
  ⟨by kernel_rfl, by kernel_rfl, by kernel_rfl, by kernel_rfl, kStruct (by kernel_rfl), fun _ => eqRow_of (ks := [some .u8, some .u8, some .u8, some .u8, some .u8, some .u8, some .u8, some .u8, some .u8, some .u8, some .u8, some .u8, some .u8, some .u8, some .u8, some .u8, some .u8, some .u8, some .u8, some .u8, some .u8, some .u8, some .u8, some .u8, some .u8, some .u8, some .u8, some .u8, some .u8, some .u8, some .u8, some .u8, some .u64, some .u64, some .u64, some .u64, some .u64, some .u64, some .u64, some .u64, some .u64]) (D := 12) (by decide) (by kernel_rfl) (by kernel_rfl) (by kernel_rfl) (by kernel_rfl)⟩
theorem row41 : RowOk Tryd.prog 41 ⟨true, 42, [.bool false, .int .u8 0, .int .u8 0, .int .u8 0, .int .u8 0, .int .u8 0, .int .u8 0, .int .u8 0, .int .u8 0, .int .u8 0, .int .u8 0, .int .u8 0, .int .u8 0, .int .u8 0, .int .u8 0, .int .u8 0, .int .u8 0, .int .u8 0, .int .u8 0, .int .u8 0, .int .u8 0, .int .u8 0, .int .u8 0, .int .u8 0, .int .u8 0, .int .u8 0, .int .u8 0, .int .u8 0, .int .u8 0, .int .u8 0, .int .u8 0, .int .u8 0, .int .u8 0, .int .u64 0, .int .u64 0, .int .u64 0, .int .u64 0, .int .u64 0, .int .u64 0, .int .u64 0, .int .u64 0, .bool false], true, .struct [(0, 1, false), (1, 32, true), (33, 9, true)]⟩ :=
  ⟨by kernel_rfl, by kernel_rfl, by kernel_rfl, by kernel_rfl, kStruct (by kernel_rfl), fun _ => eqRow_of (ks := [none, some .u8, some .u8, some .u8, some .u8, some .u8, some .u8, some .u8, some .u8, some .u8, some .u8, some .u8, some .u8, some .u8, some .u8, some .u8, some .u8, some .u8, some .u8, some .u8, some .u8, some .u8, some .u8, some .u8, some .u8, some .u8, some .u8, some .u8, some .u8, some .u8, some .u8, some .u8, some .u8, some .u64, some .u64, some .u64, some .u64, some .u64, some .u64, some .u64, some .u64, none]) (D := 12) (by decide) (by kernel_rfl) (by kernel_rfl) (by kernel_rfl) (by kernel_rfl)⟩
theorem row42 : RowOk Tryd.prog 42 ⟨true, 42, [.bool false, .int .u8 0, .int .u8 0, .int .u8 0, .int .u8 0, .int .u8 0, .int .u8 0, .int .u8 0, .int .u8 0, .int .u8 0, .int .u8 0, .int .u8 0, .int .u8 0, .int .u8 0, .int .u8 0, .int .u8 0, .int .u8 0, .int .u8 0, .int .u8 0, .int .u8 0, .int .u8 0, .int .u8 0, .int .u8 0, .int .u8 0, .int .u8 0, .int .u8 0, .int .u8 0, .int .u8 0, .int .u8 0, .int .u8 0, .int .u8 0, .int .u8 0, .int .u8 0, .int .u64 0, .int .u64 0, .int .u64 0, .int .u64 0, .int .u64 0, .int .u64 0, .int .u64 0, .int .u64 0, .bool false], true, .struct [(0, 1, false), (1, 32, true), (33, 9, true)]⟩ :=
  ⟨by kernel_rfl, by kernel_rfl, by kernel_rfl, by kernel_rfl, kStruct (by kernel_rfl), fun _ => eqRow_of (ks := [none, some .u8, some .u8, some .u8, some .u8, some .u8, some .u8, some .u8, some .u8, some .u8, some .u8, some .u8, some .u8, some .u8, some .u8, some .u8, some .u8, some .u8, some .u8, some .u8, some .u8, some .u8, some .u8, some .u8, some .u8, some .u8, some .u8, some .u8, some .u8, some .u8, some .u8, some .u8, some .u8, some .u64, some .u64, some .u64, some .u64, some .u64, some .u64, some .u64, some .u64, none]) (D := 12) (by decide) (by kernel_rfl) (by kernel_rfl) (by kernel_rfl) (by kernel_rfl)⟩
theorem row43 : RowOk Tryd.prog 43 ⟨true, 11, [.bool false, .int .u64 0, .int .u64 0, .int .u64 0, .int .u64 0, .int .u64 0, .int .u64 0, .int .u64 0, .int .u64 0, .int .u64 0, .bool false], true, .struct [(0, 1, false), (1, 1, false), (2, 9, true)]⟩ :=
  ⟨by kernel_rfl, by kernel_rfl, by kernel_rfl, by kernel_rfl, kStruct (by kernel_rfl), fun _ => eqRow_of (ks := [none, some .u64, some .u64, some .u64, some .u64, some .u64, some .u64, some .u64, some .u64, some .u64, none]) (D := 12) (by decide) (by kernel_rfl) (by kernel_rfl) (by kernel_rfl) (by kernel_rfl)⟩
theorem row44 : RowOk Tryd.prog 44 ⟨true, 11, [.bool false, .int .u64 0, .int .u64 0, .int .u64 0, .int .u64 0, .int .u64 0, .int .u64 0, .int .u64 0, .int .u64 0, .int .u64 0, .bool false], true, .struct [(0, 1, false), (1, 1, false), (2, 9, true)]⟩ :=
  ⟨by kernel_rfl, by kernel_rfl, by kernel_rfl, by kernel_rfl, kStruct (by kernel_rfl), fun _ => eqRow_of (ks := [none, some .u64, some .u64, some .u64, some .u64, some .u64, some .u64, some .u64, some .u64, some .u64, none]) (D := 12) (by decide) (by kernel_rfl) (by kernel_rfl) (by kernel_rfl) (by kernel_rfl)⟩
theorem row57 : RowOk Tryd.prog 57 ⟨true, 13, [.int .u64 0, .int .u64 0, .int .u64 0, .int .u64 0, .int .u64 0, .int .u64 0, .int .u64 0, .int .u64 0, .int .u64 0, .int .u64 0, .int .u64 0, .int .u64 0, .bool false], true, .struct [(0, 4, true), (4, 9, true)]⟩ :=
  ⟨by kernel_rfl, by kernel_rfl, by kernel_rfl, by kernel_rfl, kStruct (by kernel_rfl), fun _ => eqRow_of (ks := [some .u64, some .u64, some .u64, some .u64, some .u64, some .u64, some .u64, some .u64, some .u64, some .u64, some .u64, some .u64, none]) (D := 12) (by decide) (by kernel_rfl) (by kernel_rfl) (by kernel_rfl) (by kernel_rfl)⟩
theorem row58 : RowOk Tryd.prog 58 ⟨true, 13, [.int .u64 0, .int .u64 0, .int .u64 0, .int .u64 0, .int .u64 0, .int .u64 0, .int .u64 0, .int .u64 0, .int .u64 0, .int .u64 0, .int .u64 0, .int .u64 0, .bool false], true, .struct [(0, 4, true), (4, 9, true)]⟩ :=
  ⟨by kernel_rfl, by kernel_rfl, by kernel_rfl, by kernel_rfl, kStruct (by kernel_rfl), fun _ => eqRow_of (ks := [some .u64, some .u64, some .u64, some .u64, some .u64, some .u64, some .u64, some .u64, some .u64, some .u64, some .u64, some .u64, none]) (D := 12) (by decide) (by kernel_rfl) (by kernel_rfl) (by kernel_rfl) (by kernel_rfl)⟩
theorem row59 : RowOk Tryd.prog 59 ⟨false, 1, [.slice none 0 0], false, .slice 58 13 104 true⟩ :=
  ⟨by kernel_rfl, by kernel_rfl, by kernel_rfl, by kernel_rfl, kSlice (by kernel_rfl), fun h => by cases h⟩
theorem row61 : RowOk Tryd.prog 61 ⟨true, 4, [.int .u64 0, .int .u64 0, .int .u64 0, .int .u64 0], true, .array 4 1 false⟩ :=
  ⟨by kernel_rfl, by kernel_rfl, by kernel_rfl, by kernel_rfl, kArray (by kernel_rfl), fun _ => eqRow_of (ks := [some .u64, some .u64, some .u64, some .u64]) (D := 12) (by decide) (by kernel_rfl) (by kernel_rfl) (by kernel_rfl) (by kernel_rfl)⟩
theorem row63 : RowOk Tryd.prog 63 ⟨true, 3, [.int .u64 0, .int .u64 0, .int .u64 0], true, .array 3 1 false⟩ :=
  ⟨by kernel_rfl, by kernel_rfl, by kernel_rfl, by kernel_rfl, kArray (by kernel_rfl), fun _ => eqRow_of (ks := [some .u64, some .u64, some .u64]) (D := 12) (by decide) (by kernel_rfl) (by kernel_rfl) (by kernel_rfl) (by kernel_rfl)⟩
theorem row64 : RowOk Tryd.prog 64 ⟨true, 7, List.replicate 7 (.int .u64 0), true, .struct [(0, 4, true), (4, 3, true)]⟩ :=
  ⟨by kernel_rfl, by kernel_rfl, by kernel_rfl, by kernel_rfl, kStruct (by kernel_rfl), fun _ => eqRow_of (ks := List.replicate 7 (some .u64)) (D := 12) (by decide) (by kernel_rfl) (by kernel_rfl) (by kernel_rfl) (by kernel_rfl)⟩
theorem row65 : RowOk Tryd.prog 65 ⟨true, 7, List.replicate 7 (.int .u64 0), true, .struct [(0, 4, true), (4, 3, true)]⟩ :=
  ⟨by kernel_rfl, by kernel_rfl, by kernel_rfl, by kernel_rfl, kStruct (by kernel_rfl), fun _ => eqRow_of (ks := List.replicate 7 (some .u64)) (D := 12) (by decide) (by kernel_rfl) (by kernel_rfl) (by kernel_rfl) (by kernel_rfl)⟩
theorem row77 : RowOk Tryd.prog 77 ⟨true, 12, List.replicate 12 (.int .u64 0), true, .struct [(0, 4, true), (4, 4, true), (8, 4, true)]⟩ :=
  ⟨by kernel_rfl, by kernel_rfl, by kernel_rfl, by kernel_rfl, kStruct (by kernel_rfl), fun _ => eqRow_of (ks := List.replicate 12 (some .u64)) (D := 12) (by decide) (by kernel_rfl) (by kernel_rfl) (by kernel_rfl) (by kernel_rfl)⟩
theorem row78 : RowOk Tryd.prog 78 ⟨true, 12, List.replicate 12 (.int .u64 0), true, .struct [(0, 4, true), (4, 4, true), (8, 4, true)]⟩ :=
  ⟨by kernel_rfl, by kernel_rfl, by kernel_rfl, by kernel_rfl, kStruct (by kernel_rfl), fun _ => eqRow_of (ks := List.replicate 12 (some .u64)) (D := 12) (by decide) (by kernel_rfl) (by kernel_rfl) (by kernel_rfl) (by kernel_rfl)⟩
theorem row83 : RowOk Tryd.prog 83 ⟨true, 12, List.replicate 12 (.int .u64 0), true, .struct [(0, 4, true), (4, 4, true), (8, 4, true)]⟩ :=
  ⟨by kernel_rfl, by kernel_rfl, by kernel_rfl, by kernel_rfl, kStruct (by kernel_rfl), fun _ => eqRow_of (ks := List.replicate 12 (some .u64)) (D := 12) (by decide) (by kernel_rfl) (by kernel_rfl) (by kernel_rfl) (by kernel_rfl)⟩
theorem row84 : RowOk Tryd.prog 84 ⟨true, 12, List.replicate 12 (.int .u64 0), true, .struct [(0, 4, true), (4, 4, true), (8, 4, true)]⟩ :=
  ⟨by kernel_rfl, by kernel_rfl, by kernel_rfl, by kernel_rfl, kStruct (by kernel_rfl), fun _ => eqRow_of (ks := List.replicate 12 (some .u64)) (D := 12) (by decide) (by kernel_rfl) (by kernel_rfl) (by kernel_rfl) (by kernel_rfl)⟩
theorem row88 : RowOk Tryd.prog 88 ⟨false, 1, [.slice none 0 0], false, .slice 5 1 1 false⟩ :=
  ⟨by kernel_rfl, by kernel_rfl, by kernel_rfl, by kernel_rfl, kSlice (by kernel_rfl), fun h => by cases h⟩
theorem row91 : RowOk Tryd.prog 91 ⟨true, 32, List.replicate 32 (.int .u8 0), true, .array 32 1 false⟩ :=
  ⟨by kernel_rfl, by kernel_rfl, by kernel_rfl, by kernel_rfl, kArray (by kernel_rfl), fun _ => eqRow_of (ks := List.replicate 32 (some .u8)) (D := 12) (by decide) (by kernel_rfl) (by kernel_rfl) (by kernel_rfl) (by kernel_rfl)⟩
theorem row93 : RowOk Tryd.prog 93 ⟨true, 8, List.replicate 8 (.int .u64 0), true, .array 8 1 false⟩ :=
  ⟨by kernel_rfl, by kernel_rfl, by kernel_rfl, by kernel_rfl, kArray (by kernel_rfl), fun _ => eqRow_of (ks := List.replicate 8 (some .u64)) (D := 12) (by decide) (by kernel_rfl) (by kernel_rfl) (by kernel_rfl) (by kernel_rfl)⟩
theorem row99 : RowOk Tryd.prog 99 ⟨false, 1, [.slice none 0 0], false, .slice 88 1 24 false⟩ :=
  ⟨by kernel_rfl, by kernel_rfl, by kernel_rfl, by kernel_rfl, kSlice (by kernel_rfl), fun h => by cases h⟩
theorem row111 : RowOk Tryd.prog 111 ⟨false, 1, [.ptr none], false, .other⟩ :=
  ⟨by kernel_rfl, by kernel_rfl, by kernel_rfl, by kernel_rfl, trivial, fun h => by cases h⟩
theorem row118 : RowOk Tryd.prog 118 ⟨true, 192, List.replicate 192 (.int .u64 0), true, .array 16 12 true⟩ :=
  ⟨by kernel_rfl, by kernel_rfl, by kernel_rfl, by kernel_rfl, kArray (by kernel_rfl), fun _ => eqRow_of (ks := List.replicate 192 (some .u64)) (D := 12) (by decide) (by kernel_rfl) (by kernel_rfl) (by kernel_rfl) (by kernel_rfl)⟩
theorem row127 : RowOk Tryd.prog 127 ⟨false, 1, [.slice none 0 0], false, .slice 24 1 8 false⟩ :=
  ⟨by kernel_rfl, by kernel_rfl, by kernel_rfl, by kernel_rfl, kSlice (by kernel_rfl), fun h => by cases h⟩
theorem row131 : RowOk Tryd.prog 131 ⟨false, 1, [.int .u32 0], false, .int .u32⟩ :=
  ⟨by kernel_rfl, by kernel_rfl, by kernel_rfl, by kernel_rfl, (show Tryd.prog.underlying 131 = some (.int .u32) by kernel_rfl), fun h => by cases h⟩
theorem row132 : RowOk Tryd.prog 132 ⟨true, 8, List.replicate 8 (.int .u32 0), true, .array 8 1 false⟩ :=
  ⟨by kernel_rfl, by kernel_rfl, by kernel_rfl, by kernel_rfl, kArray (by kernel_rfl), fun _ => eqRow_of (ks := List.replicate 8 (some .u32)) (D := 12) (by decide) (by kernel_rfl) (by kernel_rfl) (by kernel_rfl) (by kernel_rfl)⟩
theorem row133 : RowOk Tryd.prog 133 ⟨true, 8, List.replicate 8 (.int .u32 0), true, .array 8 1 false⟩ :=
  ⟨by kernel_rfl, by kernel_rfl, by kernel_rfl, by kernel_rfl, kArray (by kernel_rfl), fun _ => eqRow_of (ks := List.replicate 8 (some .u32)) (D := 12) (by decide) (by kernel_rfl) (by kernel_rfl) (by kernel_rfl) (by kernel_rfl)⟩
theorem row135 : RowOk Tryd.prog 135 ⟨true, 10, [.int .u32 0, .int .u32 0, .int .u32 0, .int .u32 0, .int .u32 0, .int .u32 0, .int .u32 0, .int .u32 0, .slice none 0 0, .int .i64 0], false, .struct [(0, 8, true), (8, 1, false), (9, 1, false)]⟩ :=
  ⟨by kernel_rfl, by kernel_rfl, by kernel_rfl, by kernel_rfl, kStruct (by kernel_rfl), fun h => by cases h⟩
theorem row136 : RowOk Tryd.prog 136 ⟨true, 10, [.int .u32 0, .int .u32 0, .int .u32 0, .int .u32 0, .int .u32 0, .int .u32 0, .int .u32 0, .int .u32 0, .slice none 0 0, .int .i64 0], false, .struct [(0, 8, true), (8, 1, false), (9, 1, false)]⟩ :=
  ⟨by kernel_rfl, by kernel_rfl, by kernel_rfl, by kernel_rfl, kStruct (by kernel_rfl), fun h => by cases h⟩
theorem row138 : RowOk Tryd.prog 138 ⟨false, 1, [.int .u64 0], false, .int .u64⟩ :=
  ⟨by kernel_rfl, by kernel_rfl, by kernel_rfl, by kernel_rfl, (show Tryd.prog.underlying 138 = some (.int .u64) by kernel_rfl), fun h => by cases h⟩
theorem row141 : RowOk Tryd.prog 141 ⟨true, 64, List.replicate 64 (.int .u32 0), true, .array 64 1 false⟩ :=
  ⟨by kernel_rfl, by kernel_rfl, by kernel_rfl, by kernel_rfl, kArray (by kernel_rfl), fun _ => eqRow_of (ks := List.replicate 64 (some .u32)) (D := 12) (by decide) (by kernel_rfl) (by kernel_rfl) (by kernel_rfl) (by kernel_rfl)⟩
theorem row144 : RowOk Tryd.prog 144 ⟨true, 4, [.ptr none, .ptr none, .ptr none, .str ByteArray.empty], false, .struct [(0, 1, false), (1, 1, false), (2, 1, false), (3, 1, false)]⟩ :=
  ⟨by kernel_rfl, by kernel_rfl, by kernel_rfl, by kernel_rfl, kStruct (by kernel_rfl), fun h => by cases h⟩
theorem row145 : RowOk Tryd.prog 145 ⟨true, 4, [.ptr none, .ptr none, .ptr none, .str ByteArray.empty], false, .struct [(0, 1, false), (1, 1, false), (2, 1, false), (3, 1, false)]⟩ :=
  ⟨by kernel_rfl, by kernel_rfl, by kernel_rfl, by kernel_rfl, kStruct (by kernel_rfl), fun h => by cases h⟩
theorem row146 : RowOk Tryd.prog 146 ⟨true, 0, [], false, .array 0 1 false⟩ :=
  ⟨by kernel_rfl, by kernel_rfl, by kernel_rfl, by kernel_rfl, kArray (by kernel_rfl), fun h => by cases h⟩
theorem row150 : RowOk Tryd.prog 150 ⟨false, 1, [.int .u8 0], false, .int .u8⟩ :=
  ⟨by kernel_rfl, by kernel_rfl, by kernel_rfl, by kernel_rfl, (show Tryd.prog.underlying 150 = some (.int .u8) by kernel_rfl), fun h => by cases h⟩
theorem row151 : RowOk Tryd.prog 151 ⟨false, 1, [.int .u8 0], false, .int .u8⟩ :=
  ⟨by kernel_rfl, by kernel_rfl, by kernel_rfl, by kernel_rfl, (show Tryd.prog.underlying 151 = some (.int .u8) by kernel_rfl), fun h => by cases h⟩
theorem row153 : RowOk Tryd.prog 153 ⟨false, 1, [.ptr none], false, .other⟩ :=
  ⟨by kernel_rfl, by kernel_rfl, by kernel_rfl, by kernel_rfl, trivial, fun h => by cases h⟩
theorem row154 : RowOk Tryd.prog 154 ⟨false, 1, [.int .i32 0], false, .int .i32⟩ :=
  ⟨by kernel_rfl, by kernel_rfl, by kernel_rfl, by kernel_rfl, (show Tryd.prog.underlying 154 = some (.int .i32) by kernel_rfl), fun h => by cases h⟩
theorem row155 : RowOk Tryd.prog 155 ⟨false, 1, [.int .i32 0], false, .int .i32⟩ :=
  ⟨by kernel_rfl, by kernel_rfl, by kernel_rfl, by kernel_rfl, (show Tryd.prog.underlying 155 = some (.int .i32) by kernel_rfl), fun h => by cases h⟩
theorem row156 : RowOk Tryd.prog 156 ⟨true, 11, [.int .u64 0, .int .u64 0, .int .u32 0, .int .u8 0, .int .u8 0, .int .u8 0, .int .u8 0, .raw .nilFunc, .ptr none, .int .i32 0, .int .i32 0], false, .struct [(0, 1, false), (1, 1, false), (2, 1, false), (3, 1, false), (4, 1, false), (5, 1, false), (6, 1, false), (7, 1, false), (8, 1, false), (9, 1, false), (10, 1, false)]⟩ :=
  ⟨by kernel_rfl, by kernel_rfl, by kernel_rfl, by kernel_rfl, kStruct (by kernel_rfl), fun h => by cases h⟩
theorem row157 : RowOk Tryd.prog 157 ⟨true, 11, [.int .u64 0, .int .u64 0, .int .u32 0, .int .u8 0, .int .u8 0, .int .u8 0, .int .u8 0, .raw .nilFunc, .ptr none, .int .i32 0, .int .i32 0], false, .struct [(0, 1, false), (1, 1, false), (2, 1, false), (3, 1, false), (4, 1, false), (5, 1, false), (6, 1, false), (7, 1, false), (8, 1, false), (9, 1, false), (10, 1, false)]⟩ :=
  ⟨by kernel_rfl, by kernel_rfl, by kernel_rfl, by kernel_rfl, kStruct (by kernel_rfl), fun h => by cases h⟩
theorem tysOk : TysOk Tryd.prog TT := tysOk_of (by
  unfold TT
  simp only [List.forall_mem_cons]
  exact ⟨row2, row3, row4, row5, row9, row22, row23, row24, row25, row26, row27, row28, row30, row31, row32, row37, row39, row40, row41, row42, row43, row44, row57, row58, row59, row61, row63, row64, row65, row77, row78, row83, row84, row88, row91, row93, row99, row111, row118, row127, row131, row132, row133, row135, row136, row138, row141, row144, row145, row146, row150, row151, row153, row154, row155, row156, row157, fun _ h => by cases h⟩)
theorem p_add64 (W0 : World) : PrimOk Tryd.prog W0 51 .add64 := primOk_add64 Tryd.func51 (by kernel_rfl) (by kernel_rfl) (by kernel_rfl) (by kernel_rfl)
theorem p_sub64 (W0 : World) : PrimOk Tryd.prog W0 91 .sub64 := primOk_sub64 Tryd.func91 (by kernel_rfl) (by kernel_rfl) (by kernel_rfl) (by kernel_rfl)
theorem g0Ok (W0 : World) : CfgOk (G0 W0) := ⟨tysOk, (fun f p h => by
  change prim0 f = some p at h
  unfold prim0 at h
  split at h
  · simp only [Option.some.injEq] at h; subst h; exact p_add64 W0
  · simp only [Option.some.injEq] at h; subst h; exact p_sub64 W0
  · cases h), by kernel_rfl⟩
theorem hhOk (hm : ∀ W0, PrimOk Tryd.prog W0 83 .mul64) (A : Hv.Base) (ord : Nat → Option (List Nat)) : Hv.CfgOk (HHo A ord) := ⟨tysOk, (fun f p h W0 => by
  change prim1 f = some p at h
  unfold prim1 at h
  split at h
  · simp only [Option.some.injEq] at h; subst h; exact p_add64 W0
  · simp only [Option.some.injEq] at h; subst h; exact p_sub64 W0
  · simp only [Option.some.injEq] at h; subst h; exact hm W0
  · cases h), by kernel_rfl⟩
theorem ggOk (hm : ∀ W0, PrimOk Tryd.prog W0 83 .mul64) (W0 : World) : CfgOk (GG W0) := ⟨tysOk, (fun f p h => by
  change prim1 f = some p at h
  unfold prim1 at h
  split at h
  · simp only [Option.some.injEq] at h; subst h; exact p_add64 W0
  · simp only [Option.some.injEq] at h; subst h; exact p_sub64 W0
  · simp only [Option.some.injEq] at h; subst h; exact hm W0
  · cases h), by kernel_rfl⟩
end Go.Ev
