/- The types of this seat's program as the walk asks for them, each held against the program; its functions' numbers by their names. Written by a program of this session (tools/tys.py). -/
import Derived.Test.YthmdbgdagnhheaaGreatDoorEvA
import Derived.Test.YthmdbgdagnhheaaGreatDoorHvA
import Derived.Test.YthmdbgdagnhheaaGreatDoorChecked
namespace Go.Ev
open Go.Proofs
def TT : Tys := [
  (2, ⟨false, 1, [.int .i64 0], false, .int .i64⟩),
  (3, ⟨false, 1, [.int .i64 0], false, .int .i64⟩),
  (4, ⟨false, 1, [.bool false], false, .bool⟩),
  (5, ⟨false, 1, [.int .u8 0], false, .int .u8⟩),
  (9, ⟨false, 1, [.str ByteArray.empty], false, .string⟩),
  (22, ⟨false, 1, [.int .u64 0], false, .int .u64⟩),
  (23, ⟨true, 4, [.int .u64 0, .int .u64 0, .int .u64 0, .int .u64 0], true, .array 4 1 false⟩),
  (24, ⟨true, 4, [.int .u64 0, .int .u64 0, .int .u64 0, .int .u64 0], true, .array 4 1 false⟩),
  (25, ⟨false, 1, [.slice none 0 0], false, .slice 5 1 1 false⟩),
  (26, ⟨true, 64, List.replicate 64 (.int .u8 0), true, .array 64 1 false⟩),
  (27, ⟨true, 64, List.replicate 64 (.int .u8 0), true, .array 64 1 false⟩),
  (30, ⟨true, 32, List.replicate 32 (.int .u8 0), true, .array 32 1 false⟩),
  (31, ⟨true, 32, List.replicate 32 (.int .u8 0), true, .array 32 1 false⟩),
  (37, ⟨true, 4, [.int .u64 0, .int .u64 0, .int .u64 0, .int .u64 0], true, .array 4 1 false⟩),
  (38, ⟨true, 9, [.int .u64 0, .int .u64 0, .int .u64 0, .int .u64 0, .int .u64 0, .int .u64 0, .int .u64 0, .int .u64 0, .bool false], true, .struct [(0, 4, true), (4, 4, true), (8, 1, false)]⟩),
  (39, ⟨true, 9, [.int .u64 0, .int .u64 0, .int .u64 0, .int .u64 0, .int .u64 0, .int .u64 0, .int .u64 0, .int .u64 0, .bool false], true, .struct [(0, 4, true), (4, 4, true), (8, 1, false)]⟩),
  (44, ⟨true, 32, List.replicate 32 (.int .u8 0), true, .array 32 1 false⟩),
  (53, ⟨false, 1, [.slice none 0 0], false, .slice 25 1 24 false⟩),
  (63, ⟨true, 13, [.int .u64 0, .int .u64 0, .int .u64 0, .int .u64 0, .int .u64 0, .int .u64 0, .int .u64 0, .int .u64 0, .int .u64 0, .int .u64 0, .int .u64 0, .int .u64 0, .bool false], true, .struct [(0, 4, true), (4, 9, true)]⟩),
  (64, ⟨true, 13, [.int .u64 0, .int .u64 0, .int .u64 0, .int .u64 0, .int .u64 0, .int .u64 0, .int .u64 0, .int .u64 0, .int .u64 0, .int .u64 0, .int .u64 0, .int .u64 0, .bool false], true, .struct [(0, 4, true), (4, 9, true)]⟩),
  (66, ⟨false, 1, [.slice none 0 0], false, .slice 64 13 104 true⟩),
  (68, ⟨true, 4, [.int .u64 0, .int .u64 0, .int .u64 0, .int .u64 0], true, .array 4 1 false⟩),
  (71, ⟨true, 3, [.int .u64 0, .int .u64 0, .int .u64 0], true, .array 3 1 false⟩),
  (72, ⟨true, 7, List.replicate 7 (.int .u64 0), true, .struct [(0, 4, true), (4, 3, true)]⟩),
  (73, ⟨true, 7, List.replicate 7 (.int .u64 0), true, .struct [(0, 4, true), (4, 3, true)]⟩),
  (81, ⟨false, 1, [.ptr none], false, .other⟩),
  (86, ⟨true, 8, List.replicate 8 (.int .u64 0), true, .array 8 1 false⟩),
  (91, ⟨false, 1, [.ptr none], false, .other⟩),
  (95, ⟨true, 12, List.replicate 12 (.int .u64 0), true, .struct [(0, 4, true), (4, 4, true), (8, 4, true)]⟩),
  (96, ⟨true, 12, List.replicate 12 (.int .u64 0), true, .struct [(0, 4, true), (4, 4, true), (8, 4, true)]⟩),
  (107, ⟨true, 12, List.replicate 12 (.int .u64 0), true, .struct [(0, 4, true), (4, 4, true), (8, 4, true)]⟩),
  (108, ⟨true, 12, List.replicate 12 (.int .u64 0), true, .struct [(0, 4, true), (4, 4, true), (8, 4, true)]⟩),
  (123, ⟨false, 1, [.int .u32 0], false, .int .u32⟩),
  (124, ⟨true, 8, List.replicate 8 (.int .u32 0), true, .array 8 1 false⟩),
  (125, ⟨true, 8, List.replicate 8 (.int .u32 0), true, .array 8 1 false⟩),
  (127, ⟨true, 10, [.int .u32 0, .int .u32 0, .int .u32 0, .int .u32 0, .int .u32 0, .int .u32 0, .int .u32 0, .int .u32 0, .slice none 0 0, .int .i64 0], false, .struct [(0, 8, true), (8, 1, false), (9, 1, false)]⟩),
  (128, ⟨true, 10, [.int .u32 0, .int .u32 0, .int .u32 0, .int .u32 0, .int .u32 0, .int .u32 0, .int .u32 0, .int .u32 0, .slice none 0 0, .int .i64 0], false, .struct [(0, 8, true), (8, 1, false), (9, 1, false)]⟩),
  (131, ⟨false, 1, [.slice none 0 0], false, .slice 22 1 8 false⟩),
  (135, ⟨true, 64, List.replicate 64 (.int .u32 0), true, .array 64 1 false⟩),
  (137, ⟨false, 1, [.int .u64 0], false, .int .u64⟩),
  (142, ⟨true, 192, List.replicate 192 (.int .u64 0), true, .array 16 12 true⟩),
  (146, ⟨true, 4, [.ptr none, .ptr none, .ptr none, .str ByteArray.empty], false, .struct [(0, 1, false), (1, 1, false), (2, 1, false), (3, 1, false)]⟩),
  (147, ⟨true, 4, [.ptr none, .ptr none, .ptr none, .str ByteArray.empty], false, .struct [(0, 1, false), (1, 1, false), (2, 1, false), (3, 1, false)]⟩),
  (148, ⟨true, 0, [], false, .array 0 1 false⟩),
  (152, ⟨false, 1, [.int .u8 0], false, .int .u8⟩),
  (153, ⟨false, 1, [.int .u8 0], false, .int .u8⟩),
  (155, ⟨false, 1, [.ptr none], false, .other⟩),
  (156, ⟨false, 1, [.int .i32 0], false, .int .i32⟩),
  (157, ⟨false, 1, [.int .i32 0], false, .int .i32⟩),
  (158, ⟨true, 11, [.int .u64 0, .int .u64 0, .int .u32 0, .int .u8 0, .int .u8 0, .int .u8 0, .int .u8 0, .raw .nilFunc, .ptr none, .int .i32 0, .int .i32 0], false, .struct [(0, 1, false), (1, 1, false), (2, 1, false), (3, 1, false), (4, 1, false), (5, 1, false), (6, 1, false), (7, 1, false), (8, 1, false), (9, 1, false), (10, 1, false)]⟩),
  (159, ⟨true, 11, [.int .u64 0, .int .u64 0, .int .u32 0, .int .u8 0, .int .u8 0, .int .u8 0, .int .u8 0, .raw .nilFunc, .ptr none, .int .i32 0, .int .i32 0], false, .struct [(0, 1, false), (1, 1, false), (2, 1, false), (3, 1, false), (4, 1, false), (5, 1, false), (6, 1, false), (7, 1, false), (8, 1, false), (9, 1, false), (10, 1, false)]⟩)]
noncomputable abbrev PG : Program := Tryz.prog
abbrev f_law06_SigSigns : Nat := 3
noncomputable abbrev F_law06_SigSigns : Func := Tryz.f3
theorem h_law06_SigSigns : Tryz.prog.funcs[f_law06_SigSigns]? = some F_law06_SigSigns := Tryz.func3
abbrev f_law06_SigVerifies : Nat := 4
noncomputable abbrev F_law06_SigVerifies : Func := Tryz.f4
theorem h_law06_SigVerifies : Tryz.prog.funcs[f_law06_SigVerifies]? = some F_law06_SigVerifies := Tryz.func4
abbrev f_sig_Sign : Nat := 5
noncomputable abbrev F_sig_Sign : Func := Tryz.f5
theorem h_sig_Sign : Tryz.prog.funcs[f_sig_Sign]? = some F_sig_Sign := Tryz.func5
abbrev f_ref06_Sign : Nat := 6
noncomputable abbrev F_ref06_Sign : Func := Tryz.f6
theorem h_ref06_Sign : Tryz.prog.funcs[f_ref06_Sign]? = some F_ref06_Sign := Tryz.func6
abbrev f_sig_Public : Nat := 7
noncomputable abbrev F_sig_Public : Func := Tryz.f7
theorem h_sig_Public : Tryz.prog.funcs[f_sig_Public]? = some F_sig_Public := Tryz.func7
abbrev f_ref06_Public : Nat := 8
noncomputable abbrev F_ref06_Public : Func := Tryz.f8
theorem h_ref06_Public : Tryz.prog.funcs[f_ref06_Public]? = some F_ref06_Public := Tryz.func8
abbrev f_law06_alive : Nat := 9
noncomputable abbrev F_law06_alive : Func := Tryz.f9
theorem h_law06_alive : Tryz.prog.funcs[f_law06_alive]? = some F_law06_alive := Tryz.func9
abbrev f_sig_Verify : Nat := 10
noncomputable abbrev F_sig_Verify : Func := Tryz.f10
theorem h_sig_Verify : Tryz.prog.funcs[f_sig_Verify]? = some F_sig_Verify := Tryz.func10
abbrev f_ref06_Verify : Nat := 11
noncomputable abbrev F_ref06_Verify : Func := Tryz.f11
theorem h_ref06_Verify : Tryz.prog.funcs[f_ref06_Verify]? = some F_ref06_Verify := Tryz.func11
abbrev f_sig_pair : Nat := 12
noncomputable abbrev F_sig_pair : Func := Tryz.f12
theorem h_sig_pair : Tryz.prog.funcs[f_sig_pair]? = some F_sig_pair := Tryz.func12
abbrev f_fe_Bytes : Nat := 13
noncomputable abbrev F_fe_Bytes : Func := Tryz.f13
theorem h_fe_Bytes : Tryz.prog.funcs[f_fe_Bytes]? = some F_fe_Bytes := Tryz.func13
abbrev f_scalar_Bytes : Nat := 14
noncomputable abbrev F_scalar_Bytes : Func := Tryz.f14
theorem h_scalar_Bytes : Tryz.prog.funcs[f_scalar_Bytes]? = some F_scalar_Bytes := Tryz.func14
abbrev f_sha_Tagged : Nat := 15
noncomputable abbrev F_sha_Tagged : Func := Tryz.f15
theorem h_sha_Tagged : Tryz.prog.funcs[f_sha_Tagged]? = some F_sha_Tagged := Tryz.func15
abbrev f_sig_reduced : Nat := 16
noncomputable abbrev F_sig_reduced : Func := Tryz.f16
theorem h_sig_reduced : Tryz.prog.funcs[f_sig_reduced]? = some F_sig_reduced := Tryz.func16
abbrev f_scalar_Add : Nat := 17
noncomputable abbrev F_scalar_Add : Func := Tryz.f17
theorem h_scalar_Add : Tryz.prog.funcs[f_scalar_Add]? = some F_scalar_Add := Tryz.func17
abbrev f_scalar_Mul : Nat := 18
noncomputable abbrev F_scalar_Mul : Func := Tryz.f18
theorem h_scalar_Mul : Tryz.prog.funcs[f_scalar_Mul]? = some F_scalar_Mul := Tryz.func18
abbrev f_ref05_Mul : Nat := 19
noncomputable abbrev F_ref05_Mul : Func := Tryz.f19
theorem h_ref05_Mul : Tryz.prog.funcs[f_ref05_Mul]? = some F_ref05_Mul := Tryz.func19
abbrev f_ref05_Base : Nat := 20
noncomputable abbrev F_ref05_Base : Func := Tryz.f20
theorem h_ref05_Base : Tryz.prog.funcs[f_ref05_Base]? = some F_ref05_Base := Tryz.func20
abbrev f_ref06_even : Nat := 21
noncomputable abbrev F_ref06_even : Func := Tryz.f21
theorem h_ref06_even : Tryz.prog.funcs[f_ref06_even]? = some F_ref06_even := Tryz.func21
abbrev f_ref05_ScalarBytes : Nat := 22
noncomputable abbrev F_ref05_ScalarBytes : Func := Tryz.f22
theorem h_ref05_ScalarBytes : Tryz.prog.funcs[f_ref05_ScalarBytes]? = some F_ref05_ScalarBytes := Tryz.func22
abbrev f_ref01_Tagged : Nat := 23
noncomputable abbrev F_ref01_Tagged : Func := Tryz.f23
theorem h_ref01_Tagged : Tryz.prog.funcs[f_ref01_Tagged]? = some F_ref01_Tagged := Tryz.func23
abbrev f_ref06_reduced : Nat := 24
noncomputable abbrev F_ref06_reduced : Func := Tryz.f24
theorem h_ref06_reduced : Tryz.prog.funcs[f_ref06_reduced]? = some F_ref06_reduced := Tryz.func24
abbrev f_ref06_x : Nat := 25
noncomputable abbrev F_ref06_x : Func := Tryz.f25
theorem h_ref06_x : Tryz.prog.funcs[f_ref06_x]? = some F_ref06_x := Tryz.func25
abbrev f_ref05_AddScalar : Nat := 26
noncomputable abbrev F_ref05_AddScalar : Func := Tryz.f26
theorem h_ref05_AddScalar : Tryz.prog.funcs[f_ref05_AddScalar]? = some F_ref05_AddScalar := Tryz.func26
abbrev f_ref05_MulScalar : Nat := 27
noncomputable abbrev F_ref05_MulScalar : Func := Tryz.f27
theorem h_ref05_MulScalar : Tryz.prog.funcs[f_ref05_MulScalar]? = some F_ref05_MulScalar := Tryz.func27
abbrev f_curve_Lift : Nat := 28
noncomputable abbrev F_curve_Lift : Func := Tryz.f28
theorem h_curve_Lift : Tryz.prog.funcs[f_curve_Lift]? = some F_curve_Lift := Tryz.func28
abbrev f_fe_Read : Nat := 29
noncomputable abbrev F_fe_Read : Func := Tryz.f29
theorem h_fe_Read : Tryz.prog.funcs[f_fe_Read]? = some F_fe_Read := Tryz.func29
abbrev f_scalar_Read : Nat := 30
noncomputable abbrev F_scalar_Read : Func := Tryz.f30
theorem h_scalar_Read : Tryz.prog.funcs[f_scalar_Read]? = some F_scalar_Read := Tryz.func30
abbrev f_curve_Multi : Nat := 31
noncomputable abbrev F_curve_Multi : Func := Tryz.f31
theorem h_curve_Multi : Tryz.prog.funcs[f_curve_Multi]? = some F_curve_Multi := Tryz.func31
abbrev f_curve_Base : Nat := 32
noncomputable abbrev F_curve_Base : Func := Tryz.f32
theorem h_curve_Base : Tryz.prog.funcs[f_curve_Base]? = some F_curve_Base := Tryz.func32
abbrev f_scalar_Neg : Nat := 33
noncomputable abbrev F_scalar_Neg : Func := Tryz.f33
theorem h_scalar_Neg : Tryz.prog.funcs[f_scalar_Neg]? = some F_scalar_Neg := Tryz.func33
abbrev f_fe_Odd : Nat := 34
noncomputable abbrev F_fe_Odd : Func := Tryz.f34
theorem h_fe_Odd : Tryz.prog.funcs[f_fe_Odd]? = some F_fe_Odd := Tryz.func34
abbrev f_ref05_Lift : Nat := 35
noncomputable abbrev F_ref05_Lift : Func := Tryz.f35
theorem h_ref05_Lift : Tryz.prog.funcs[f_ref05_Lift]? = some F_ref05_Lift := Tryz.func35
abbrev f_ref03_Number : Nat := 36
noncomputable abbrev F_ref03_Number : Func := Tryz.f36
theorem h_ref03_Number : Tryz.prog.funcs[f_ref03_Number]? = some F_ref03_Number := Tryz.func36
abbrev f_ref03_Right : Nat := 37
noncomputable abbrev F_ref03_Right : Func := Tryz.f37
theorem h_ref03_Right : Tryz.prog.funcs[f_ref03_Right]? = some F_ref03_Right := Tryz.func37
abbrev f_ref03_P : Nat := 38
noncomputable abbrev F_ref03_P : Func := Tryz.f38
theorem h_ref03_P : Tryz.prog.funcs[f_ref03_P]? = some F_ref03_P := Tryz.func38
abbrev f_ref05_ReadScalar : Nat := 39
noncomputable abbrev F_ref05_ReadScalar : Func := Tryz.f39
theorem h_ref05_ReadScalar : Tryz.prog.funcs[f_ref05_ReadScalar]? = some F_ref05_ReadScalar := Tryz.func39
abbrev f_ref05_Add : Nat := 40
noncomputable abbrev F_ref05_Add : Func := Tryz.f40
theorem h_ref05_Add : Tryz.prog.funcs[f_ref05_Add]? = some F_ref05_Add := Tryz.func40
abbrev f_ref05_Neg : Nat := 41
noncomputable abbrev F_ref05_Neg : Func := Tryz.f41
theorem h_ref05_Neg : Tryz.prog.funcs[f_ref05_Neg]? = some F_ref05_Neg := Tryz.func41
abbrev f_ref03_Fe : Nat := 42
noncomputable abbrev F_ref03_Fe : Func := Tryz.f42
theorem h_ref03_Fe : Tryz.prog.funcs[f_ref03_Fe]? = some F_ref03_Fe := Tryz.func42
abbrev f_scalar_Norm : Nat := 43
noncomputable abbrev F_scalar_Norm : Func := Tryz.f43
theorem h_scalar_Norm : Tryz.prog.funcs[f_scalar_Norm]? = some F_scalar_Norm := Tryz.func43
abbrev f_curve_Mul : Nat := 44
noncomputable abbrev F_curve_Mul : Func := Tryz.f44
theorem h_curve_Mul : Tryz.prog.funcs[f_curve_Mul]? = some F_curve_Mul := Tryz.func44
abbrev f_curve_Neg : Nat := 45
noncomputable abbrev F_curve_Neg : Func := Tryz.f45
theorem h_curve_Neg : Tryz.prog.funcs[f_curve_Neg]? = some F_curve_Neg := Tryz.func45
abbrev f_fe_Norm : Nat := 46
noncomputable abbrev F_fe_Norm : Func := Tryz.f46
theorem h_fe_Norm : Tryz.prog.funcs[f_fe_Norm]? = some F_fe_Norm := Tryz.func46
abbrev f_sha_Of : Nat := 47
noncomputable abbrev F_sha_Of : Func := Tryz.f47
theorem h_sha_Of : Tryz.prog.funcs[f_sha_Of]? = some F_sha_Of := Tryz.func47
abbrev f_sha_New : Nat := 48
noncomputable abbrev F_sha_New : Func := Tryz.f48
theorem h_sha_New : Tryz.prog.funcs[f_sha_New]? = some F_sha_New := Tryz.func48
abbrev f_sha_Hash_Write : Nat := 49
noncomputable abbrev F_sha_Hash_Write : Func := Tryz.f49
theorem h_sha_Hash_Write : Tryz.prog.funcs[f_sha_Hash_Write]? = some F_sha_Hash_Write := Tryz.func49
abbrev f_sha_Hash_Sum : Nat := 50
noncomputable abbrev F_sha_Hash_Sum : Func := Tryz.f50
theorem h_sha_Hash_Sum : Tryz.prog.funcs[f_sha_Hash_Sum]? = some F_sha_Hash_Sum := Tryz.func50
abbrev f_scalar_Reduce : Nat := 51
noncomputable abbrev F_scalar_Reduce : Func := Tryz.f51
theorem h_scalar_Reduce : Tryz.prog.funcs[f_scalar_Reduce]? = some F_scalar_Reduce := Tryz.func51
abbrev f_bits_Add64 : Nat := 52
noncomputable abbrev F_bits_Add64 : Func := Tryz.f52
theorem h_bits_Add64 : Tryz.prog.funcs[f_bits_Add64]? = some F_bits_Add64 := Tryz.func52
abbrev f_scalar_folded : Nat := 53
noncomputable abbrev F_scalar_folded : Func := Tryz.f53
theorem h_scalar_folded : Tryz.prog.funcs[f_scalar_folded]? = some F_scalar_folded := Tryz.func53
abbrev f_scalar_gather : Nat := 54
noncomputable abbrev F_scalar_gather : Func := Tryz.f54
theorem h_scalar_gather : Tryz.prog.funcs[f_scalar_gather]? = some F_scalar_gather := Tryz.func54
abbrev f_ref05_Taken : Nat := 55
noncomputable abbrev F_ref05_Taken : Func := Tryz.f55
theorem h_ref05_Taken : Tryz.prog.funcs[f_ref05_Taken]? = some F_ref05_Taken := Tryz.func55
abbrev f_ref03_Norm : Nat := 56
noncomputable abbrev F_ref03_Norm : Func := Tryz.f56
theorem h_ref03_Norm : Tryz.prog.funcs[f_ref03_Norm]? = some F_ref03_Norm := Tryz.func56
abbrev f_ref03_N : Nat := 57
noncomputable abbrev F_ref03_N : Func := Tryz.f57
theorem h_ref03_N : Tryz.prog.funcs[f_ref03_N]? = some F_ref03_N := Tryz.func57
abbrev f_ref03_OfScalar : Nat := 58
noncomputable abbrev F_ref03_OfScalar : Func := Tryz.f58
theorem h_ref03_OfScalar : Tryz.prog.funcs[f_ref03_OfScalar]? = some F_ref03_OfScalar := Tryz.func58
abbrev f_ref03_Of : Nat := 59
noncomputable abbrev F_ref03_Of : Func := Tryz.f59
theorem h_ref03_Of : Tryz.prog.funcs[f_ref03_Of]? = some F_ref03_Of := Tryz.func59
abbrev f_ref05_twice : Nat := 60
noncomputable abbrev F_ref05_twice : Func := Tryz.f60
theorem h_ref05_twice : Tryz.prog.funcs[f_ref05_twice]? = some F_ref05_twice := Tryz.func60
abbrev f_ref05_plus : Nat := 61
noncomputable abbrev F_ref05_plus : Func := Tryz.f61
theorem h_ref05_plus : Tryz.prog.funcs[f_ref05_plus]? = some F_ref05_plus := Tryz.func61
abbrev f_ref05_Zero : Nat := 62
noncomputable abbrev F_ref05_Zero : Func := Tryz.f62
theorem h_ref05_Zero : Tryz.prog.funcs[f_ref05_Zero]? = some F_ref05_Zero := Tryz.func62
abbrev f_ref03_Inv : Nat := 63
noncomputable abbrev F_ref03_Inv : Func := Tryz.f63
theorem h_ref03_Inv : Tryz.prog.funcs[f_ref03_Inv]? = some F_ref03_Inv := Tryz.func63
abbrev f_ref05_mul : Nat := 64
noncomputable abbrev F_ref05_mul : Func := Tryz.f64
theorem h_ref05_mul : Tryz.prog.funcs[f_ref05_mul]? = some F_ref05_mul := Tryz.func64
abbrev f_ref05_point : Nat := 65
noncomputable abbrev F_ref05_point : Func := Tryz.f65
theorem h_ref05_point : Tryz.prog.funcs[f_ref05_point]? = some F_ref05_point := Tryz.func65
abbrev f_ref05_SubScalar : Nat := 66
noncomputable abbrev F_ref05_SubScalar : Func := Tryz.f66
theorem h_ref05_SubScalar : Tryz.prog.funcs[f_ref05_SubScalar]? = some F_ref05_SubScalar := Tryz.func66
abbrev f_ref05_Normal : Nat := 67
noncomputable abbrev F_ref05_Normal : Func := Tryz.f67
theorem h_ref05_Normal : Tryz.prog.funcs[f_ref05_Normal]? = some F_ref05_Normal := Tryz.func67
abbrev f_ref03_Bytes : Nat := 68
noncomputable abbrev F_ref03_Bytes : Func := Tryz.f68
theorem h_ref03_Bytes : Tryz.prog.funcs[f_ref03_Bytes]? = some F_ref03_Bytes := Tryz.func68
abbrev f_ref01_Text : Nat := 69
noncomputable abbrev F_ref01_Text : Func := Tryz.f69
theorem h_ref01_Text : Tryz.prog.funcs[f_ref01_Text]? = some F_ref01_Text := Tryz.func69
abbrev f_ref01_Of : Nat := 70
noncomputable abbrev F_ref01_Of : Func := Tryz.f70
theorem h_ref01_Of : Tryz.prog.funcs[f_ref01_Of]? = some F_ref01_Of := Tryz.func70
abbrev f_ref05_Reduce : Nat := 71
noncomputable abbrev F_ref05_Reduce : Func := Tryz.f71
theorem h_ref05_Reduce : Tryz.prog.funcs[f_ref05_Reduce]? = some F_ref05_Reduce := Tryz.func71
abbrev f_ref03_Scalar : Nat := 72
noncomputable abbrev F_ref03_Scalar : Func := Tryz.f72
theorem h_ref03_Scalar : Tryz.prog.funcs[f_ref03_Scalar]? = some F_ref03_Scalar := Tryz.func72
abbrev f_ref03_Add : Nat := 73
noncomputable abbrev F_ref03_Add : Func := Tryz.f73
theorem h_ref03_Add : Tryz.prog.funcs[f_ref03_Add]? = some F_ref03_Add := Tryz.func73
abbrev f_ref03_Mul : Nat := 74
noncomputable abbrev F_ref03_Mul : Func := Tryz.f74
theorem h_ref03_Mul : Tryz.prog.funcs[f_ref03_Mul]? = some F_ref03_Mul := Tryz.func74
abbrev f_fe_Sqrt : Nat := 75
noncomputable abbrev F_fe_Sqrt : Func := Tryz.f75
theorem h_fe_Sqrt : Tryz.prog.funcs[f_fe_Sqrt]? = some F_fe_Sqrt := Tryz.func75
abbrev f_curve_cube : Nat := 76
noncomputable abbrev F_curve_cube : Func := Tryz.f76
theorem h_curve_cube : Tryz.prog.funcs[f_curve_cube]? = some F_curve_cube := Tryz.func76
abbrev f_curve_Zero : Nat := 77
noncomputable abbrev F_curve_Zero : Func := Tryz.f77
theorem h_curve_Zero : Tryz.prog.funcs[f_curve_Zero]? = some F_curve_Zero := Tryz.func77
abbrev f_scalar_words : Nat := 78
noncomputable abbrev F_scalar_words : Func := Tryz.f78
theorem h_scalar_words : Tryz.prog.funcs[f_scalar_words]? = some F_scalar_words := Tryz.func78
abbrev f_curve_far_plus : Nat := 79
noncomputable abbrev F_curve_far_plus : Func := Tryz.f79
theorem h_curve_far_plus : Tryz.prog.funcs[f_curve_far_plus]? = some F_curve_far_plus := Tryz.func79
abbrev f_curve_out : Nat := 80
noncomputable abbrev F_curve_out : Func := Tryz.f80
theorem h_curve_out : Tryz.prog.funcs[f_curve_out]? = some F_curve_out := Tryz.func80
abbrev f_curve_far_times : Nat := 81
noncomputable abbrev F_curve_far_times : Func := Tryz.f81
theorem h_curve_far_times : Tryz.prog.funcs[f_curve_far_times]? = some F_curve_far_times := Tryz.func81
abbrev f_curve_far_home : Nat := 82
noncomputable abbrev F_curve_far_home : Func := Tryz.f82
theorem h_curve_far_home : Tryz.prog.funcs[f_curve_far_home]? = some F_curve_far_home := Tryz.func82
abbrev f_scalar_minus : Nat := 83
noncomputable abbrev F_scalar_minus : Func := Tryz.f83
theorem h_scalar_minus : Tryz.prog.funcs[f_scalar_minus]? = some F_scalar_minus := Tryz.func83
abbrev f_scalar_order : Nat := 84
noncomputable abbrev F_scalar_order : Func := Tryz.f84
theorem h_scalar_order : Tryz.prog.funcs[f_scalar_order]? = some F_scalar_order := Tryz.func84
abbrev f_ref03_Sqrt : Nat := 85
noncomputable abbrev F_ref03_Sqrt : Func := Tryz.f85
theorem h_ref03_Sqrt : Tryz.prog.funcs[f_ref03_Sqrt]? = some F_ref03_Sqrt := Tryz.func85
abbrev f_ref05_cube : Nat := 86
noncomputable abbrev F_ref05_cube : Func := Tryz.f86
theorem h_ref05_cube : Tryz.prog.funcs[f_ref05_cube]? = some F_ref05_cube := Tryz.func86
abbrev f_ref03_below : Nat := 87
noncomputable abbrev F_ref03_below : Func := Tryz.f87
theorem h_ref03_below : Tryz.prog.funcs[f_ref03_below]? = some F_ref03_below := Tryz.func87
abbrev f_ref05_sub : Nat := 88
noncomputable abbrev F_ref05_sub : Func := Tryz.f88
theorem h_ref05_sub : Tryz.prog.funcs[f_ref05_sub]? = some F_ref05_sub := Tryz.func88
abbrev f_ref05_add : Nat := 89
noncomputable abbrev F_ref05_add : Func := Tryz.f89
theorem h_ref05_add : Tryz.prog.funcs[f_ref05_add]? = some F_ref05_add := Tryz.func89
abbrev f_ref03_Neg : Nat := 90
noncomputable abbrev F_ref03_Neg : Func := Tryz.f90
theorem h_ref03_Neg : Tryz.prog.funcs[f_ref03_Neg]? = some F_ref03_Neg := Tryz.func90
abbrev f_curve_Right : Nat := 91
noncomputable abbrev F_curve_Right : Func := Tryz.f91
theorem h_curve_Right : Tryz.prog.funcs[f_curve_Right]? = some F_curve_Right := Tryz.func91
abbrev f_fe_Neg : Nat := 92
noncomputable abbrev F_fe_Neg : Func := Tryz.f92
theorem h_fe_Neg : Tryz.prog.funcs[f_fe_Neg]? = some F_fe_Neg := Tryz.func92
abbrev f_fe_minus : Nat := 93
noncomputable abbrev F_fe_minus : Func := Tryz.f93
theorem h_fe_minus : Tryz.prog.funcs[f_fe_minus]? = some F_fe_minus := Tryz.func93
abbrev f_fe_prime : Nat := 94
noncomputable abbrev F_fe_prime : Func := Tryz.f94
theorem h_fe_prime : Tryz.prog.funcs[f_fe_prime]? = some F_fe_prime := Tryz.func94
abbrev f_sha_begun : Nat := 95
noncomputable abbrev F_sha_begun : Func := Tryz.f95
theorem h_sha_begun : Tryz.prog.funcs[f_sha_begun]? = some F_sha_begun := Tryz.func95
abbrev f_sha_state_mixed : Nat := 96
noncomputable abbrev F_sha_state_mixed : Func := Tryz.f96
theorem h_sha_state_mixed : Tryz.prog.funcs[f_sha_state_mixed]? = some F_sha_state_mixed := Tryz.func96
abbrev f_scalar_less : Nat := 97
noncomputable abbrev F_scalar_less : Func := Tryz.f97
theorem h_scalar_less : Tryz.prog.funcs[f_scalar_less]? = some F_scalar_less := Tryz.func97
abbrev f_bits_Mul64 : Nat := 98
noncomputable abbrev F_bits_Mul64 : Func := Tryz.f98
theorem h_bits_Mul64 : Tryz.prog.funcs[f_bits_Mul64]? = some F_bits_Mul64 := Tryz.func98
abbrev f_ref05_Right : Nat := 99
noncomputable abbrev F_ref05_Right : Func := Tryz.f99
theorem h_ref05_Right : Tryz.prog.funcs[f_ref05_Right]? = some F_ref05_Right := Tryz.func99
abbrev f_ref03_minus : Nat := 100
noncomputable abbrev F_ref03_minus : Func := Tryz.f100
theorem h_ref03_minus : Tryz.prog.funcs[f_ref03_minus]? = some F_ref03_minus := Tryz.func100
abbrev f_ref03_Small : Nat := 101
noncomputable abbrev F_ref03_Small : Func := Tryz.f101
theorem h_ref03_Small : Tryz.prog.funcs[f_ref03_Small]? = some F_ref03_Small := Tryz.func101
abbrev f_ref03_Power : Nat := 102
noncomputable abbrev F_ref03_Power : Func := Tryz.f102
theorem h_ref03_Power : Tryz.prog.funcs[f_ref03_Power]? = some F_ref03_Power := Tryz.func102
abbrev f_ref03_Sub : Nat := 103
noncomputable abbrev F_ref03_Sub : Func := Tryz.f103
theorem h_ref03_Sub : Tryz.prog.funcs[f_ref03_Sub]? = some F_ref03_Sub := Tryz.func103
abbrev f_ref01_Padded : Nat := 104
noncomputable abbrev F_ref01_Padded : Func := Tryz.f104
theorem h_ref01_Padded : Tryz.prog.funcs[f_ref01_Padded]? = some F_ref01_Padded := Tryz.func104
abbrev f_ref01_rot : Nat := 105
noncomputable abbrev F_ref01_rot : Func := Tryz.f105
theorem h_ref01_rot : Tryz.prog.funcs[f_ref01_rot]? = some F_ref01_rot := Tryz.func105
abbrev f_ref03_fold : Nat := 106
noncomputable abbrev F_ref03_fold : Func := Tryz.f106
theorem h_ref03_fold : Tryz.prog.funcs[f_ref03_fold]? = some F_ref03_fold := Tryz.func106
abbrev f_fe_plus : Nat := 107
noncomputable abbrev F_fe_plus : Func := Tryz.f107
theorem h_fe_plus : Tryz.prog.funcs[f_fe_plus]? = some F_fe_plus := Tryz.func107
abbrev f_fe_Of : Nat := 108
noncomputable abbrev F_fe_Of : Func := Tryz.f108
theorem h_fe_Of : Tryz.prog.funcs[f_fe_Of]? = some F_fe_Of := Tryz.func108
abbrev f_fe_power : Nat := 109
noncomputable abbrev F_fe_power : Func := Tryz.f109
theorem h_fe_power : Tryz.prog.funcs[f_fe_power]? = some F_fe_power := Tryz.func109
abbrev f_fe_Mul : Nat := 110
noncomputable abbrev F_fe_Mul : Func := Tryz.f110
theorem h_fe_Mul : Tryz.prog.funcs[f_fe_Mul]? = some F_fe_Mul := Tryz.func110
abbrev f_fe_Add : Nat := 111
noncomputable abbrev F_fe_Add : Func := Tryz.f111
theorem h_fe_Add : Tryz.prog.funcs[f_fe_Add]? = some F_fe_Add := Tryz.func111
abbrev f_curve_seven : Nat := 112
noncomputable abbrev F_curve_seven : Func := Tryz.f112
theorem h_curve_seven : Tryz.prog.funcs[f_curve_seven]? = some F_curve_seven := Tryz.func112
abbrev f_fe_Sub : Nat := 113
noncomputable abbrev F_fe_Sub : Func := Tryz.f113
theorem h_fe_Sub : Tryz.prog.funcs[f_fe_Sub]? = some F_fe_Sub := Tryz.func113
abbrev f_curve_far_twice : Nat := 114
noncomputable abbrev F_curve_far_twice : Func := Tryz.f114
theorem h_curve_far_twice : Tryz.prog.funcs[f_curve_far_twice]? = some F_curve_far_twice := Tryz.func114
abbrev f_fe_Inv : Nat := 115
noncomputable abbrev F_fe_Inv : Func := Tryz.f115
theorem h_fe_Inv : Tryz.prog.funcs[f_fe_Inv]? = some F_fe_Inv := Tryz.func115
abbrev f_bits_Sub64 : Nat := 116
noncomputable abbrev F_bits_Sub64 : Func := Tryz.f116
theorem h_bits_Sub64 : Tryz.prog.funcs[f_bits_Sub64]? = some F_bits_Sub64 := Tryz.func116
abbrev f_ref03_add : Nat := 117
noncomputable abbrev F_ref03_add : Func := Tryz.f117
theorem h_ref03_add : Tryz.prog.funcs[f_ref03_add]? = some F_ref03_add := Tryz.func117
abbrev f_sha_turn : Nat := 118
noncomputable abbrev F_sha_turn : Func := Tryz.f118
theorem h_sha_turn : Tryz.prog.funcs[f_sha_turn]? = some F_sha_turn := Tryz.func118
abbrev f_fe_times : Nat := 119
noncomputable abbrev F_fe_times : Func := Tryz.f119
theorem h_fe_times : Tryz.prog.funcs[f_fe_times]? = some F_fe_times := Tryz.func119
abbrev f_bits_RotateLeft32 : Nat := 120
noncomputable abbrev F_bits_RotateLeft32 : Func := Tryz.f120
theorem h_bits_RotateLeft32 : Tryz.prog.funcs[f_bits_RotateLeft32]? = some F_bits_RotateLeft32 := Tryz.func120
abbrev f_sha_Hash_Len : Nat := 136
noncomputable abbrev F_sha_Hash_Len : Func := Tryz.f136
theorem h_sha_Hash_Len : Tryz.prog.funcs[f_sha_Hash_Len]? = some F_sha_Hash_Len := Tryz.func136
abbrev t_int : Nat := 3
abbrev t_bool : Nat := 4
abbrev t_uint8 : Nat := 5
abbrev t_string : Nat := 9
abbrev t_uint64 : Nat := 22
abbrev t_a4_uint64 : Nat := 23
abbrev t_api_Scalar : Nat := 24
abbrev t_s_uint8 : Nat := 25
abbrev t_a64_uint8 : Nat := 26
abbrev t_api_Sig : Nat := 27
abbrev t_a32_uint8 : Nat := 30
abbrev t_api_Key : Nat := 31
abbrev t_api_Fe : Nat := 37
abbrev t_api_Point : Nat := 39
abbrev t_api_Digest : Nat := 44
abbrev t_s_s_uint8 : Nat := 53
abbrev t_api_Term : Nat := 64
abbrev t_s_api_Term : Nat := 66
abbrev t_tollhouseref03_Num : Nat := 68
abbrev t_a3_uint64 : Nat := 71
abbrev t_tollhouseref03_Mod : Nat := 73
abbrev t_a8_uint64 : Nat := 86
abbrev t_tollhouseref05_jac : Nat := 96
abbrev t_curve_far : Nat := 108
abbrev t_uint32 : Nat := 123
abbrev t_a8_uint32 : Nat := 124
abbrev t_sha_state : Nat := 125
abbrev t_sha_Hash : Nat := 128
abbrev t_s_uint64 : Nat := 131
abbrev t_a64_uint32 : Nat := 135
abbrev t_a16_curve_far : Nat := 142
abbrev g_ref01_table : Nat := 0
abbrev g_sha_table : Nat := 1
def prim0 : Nat → Option Prim
  | 52 => some .add64
  | 116 => some .sub64
  | _ => none
def prim1 : Nat → Option Prim
  | 52 => some .add64
  | 116 => some .sub64
  | 98 => some .mul64
  | _ => none
def rd : Nat → Bool
  | 54 => false
  | 68 => false
  | _ => true
def hk : Nat → Nat
  | 3 => 1
  | 4 => 1
  | 5 => 1
  | 6 => 1
  | 9 => 1
  | 10 => 1
  | 11 => 1
  | 15 => 1
  | 16 => 1
  | 22 => 2
  | 23 => 1
  | 24 => 1
  | 25 => 2
  | 31 => 1
  | 36 => 1
  | 39 => 1
  | 47 => 1
  | 48 => 3
  | 49 => 3
  | 50 => 1
  | 54 => 3
  | 68 => 2
  | 69 => 2
  | 70 => 1
  | 96 => 1
  | 104 => 2
  | 121 => 1
  | 123 => 1
  | 124 => 1
  | 125 => 1
  | 126 => 1
  | 127 => 1
  | 128 => 1
  | 129 => 1
  | 130 => 1
  | 131 => 1
  | 132 => 1
  | 133 => 1
  | 134 => 1
  | 135 => 1
  | 136 => 1
  | 137 => 1
  | 142 => 1
  | _ => 0
noncomputable def HHo (A : Hv.Base) (ord : Nat → Option (List Nat)) : Hv.Cfg := ⟨Tryz.prog, A, TT, prim1, hk, ord⟩
noncomputable abbrev HH (A : Hv.Base) : Hv.Cfg := HHo A (fun _ => none)
noncomputable def G0 (W0 : World) : Cfg := ⟨Tryz.prog, W0, TT, prim0, rd⟩
noncomputable def GG (W0 : World) : Cfg := ⟨Tryz.prog, W0, TT, prim1, rd⟩
theorem row2 : RowOk Tryz.prog 2 ⟨false, 1, [.int .i64 0], false, .int .i64⟩ :=
  ⟨by kernel_rfl, by kernel_rfl, by kernel_rfl, by kernel_rfl, (show Tryz.prog.underlying 2 = some (.int .i64) by kernel_rfl), fun h => by cases h⟩
theorem row3 : RowOk Tryz.prog 3 ⟨false, 1, [.int .i64 0], false, .int .i64⟩ :=
  ⟨by kernel_rfl, by kernel_rfl, by kernel_rfl, by kernel_rfl, (show Tryz.prog.underlying 3 = some (.int .i64) by kernel_rfl), fun h => by cases h⟩
theorem row4 : RowOk Tryz.prog 4 ⟨false, 1, [.bool false], false, .bool⟩ :=
  ⟨by kernel_rfl, by kernel_rfl, by kernel_rfl, by kernel_rfl, (show Tryz.prog.underlying 4 = some (.bool) by kernel_rfl), fun h => by cases h⟩
theorem row5 : RowOk Tryz.prog 5 ⟨false, 1, [.int .u8 0], false, .int .u8⟩ :=
  ⟨by kernel_rfl, by kernel_rfl, by kernel_rfl, by kernel_rfl, (show Tryz.prog.underlying 5 = some (.int .u8) by kernel_rfl), fun h => by cases h⟩
theorem row9 : RowOk Tryz.prog 9 ⟨false, 1, [.str ByteArray.empty], false, .string⟩ :=
  ⟨by kernel_rfl, by kernel_rfl, by kernel_rfl, by kernel_rfl, (show Tryz.prog.underlying 9 = some (.string) by kernel_rfl), fun h => by cases h⟩
theorem row22 : RowOk Tryz.prog 22 ⟨false, 1, [.int .u64 0], false, .int .u64⟩ :=
  ⟨by kernel_rfl, by kernel_rfl, by kernel_rfl, by kernel_rfl, (show Tryz.prog.underlying 22 = some (.int .u64) by kernel_rfl), fun h => by cases h⟩
theorem row23 : RowOk Tryz.prog 23 ⟨true, 4, [.int .u64 0, .int .u64 0, .int .u64 0, .int .u64 0], true, .array 4 1 false⟩ :=
  ⟨by kernel_rfl, by kernel_rfl, by kernel_rfl, by kernel_rfl, kArray (by kernel_rfl), fun _ => eqRow_of (ks := [some .u64, some .u64, some .u64, some .u64]) (D := 12) (by decide) (by kernel_rfl) (by kernel_rfl) (by kernel_rfl) (by kernel_rfl)⟩
theorem row24 : RowOk Tryz.prog 24 ⟨true, 4, [.int .u64 0, .int .u64 0, .int .u64 0, .int .u64 0], true, .array 4 1 false⟩ :=
  ⟨by kernel_rfl, by kernel_rfl, by kernel_rfl, by kernel_rfl, kArray (by kernel_rfl), fun _ => eqRow_of (ks := [some .u64, some .u64, some .u64, some .u64]) (D := 12) (by decide) (by kernel_rfl) (by kernel_rfl) (by kernel_rfl) (by kernel_rfl)⟩
theorem row25 : RowOk Tryz.prog 25 ⟨false, 1, [.slice none 0 0], false, .slice 5 1 1 false⟩ :=
  ⟨by kernel_rfl, by kernel_rfl, by kernel_rfl, by kernel_rfl, kSlice (by kernel_rfl), fun h => by cases h⟩
theorem row26 : RowOk Tryz.prog 26 ⟨true, 64, List.replicate 64 (.int .u8 0), true, .array 64 1 false⟩ :=
  ⟨by kernel_rfl, by kernel_rfl, by kernel_rfl, by kernel_rfl, kArray (by kernel_rfl), fun _ => eqRow_of (ks := List.replicate 64 (some .u8)) (D := 12) (by decide) (by kernel_rfl) (by kernel_rfl) (by kernel_rfl) (by kernel_rfl)⟩
theorem row27 : RowOk Tryz.prog 27 ⟨true, 64, List.replicate 64 (.int .u8 0), true, .array 64 1 false⟩ :=
  ⟨by kernel_rfl, by kernel_rfl, by kernel_rfl, by kernel_rfl, kArray (by kernel_rfl), fun _ => eqRow_of (ks := List.replicate 64 (some .u8)) (D := 12) (by decide) (by kernel_rfl) (by kernel_rfl) (by kernel_rfl) (by kernel_rfl)⟩
theorem row30 : RowOk Tryz.prog 30 ⟨true, 32, List.replicate 32 (.int .u8 0), true, .array 32 1 false⟩ :=
  ⟨by kernel_rfl, by kernel_rfl, by kernel_rfl, by kernel_rfl, kArray (by kernel_rfl), fun _ => eqRow_of (ks := List.replicate 32 (some .u8)) (D := 12) (by decide) (by kernel_rfl) (by kernel_rfl) (by kernel_rfl) (by kernel_rfl)⟩
theorem row31 : RowOk Tryz.prog 31 ⟨true, 32, List.replicate 32 (.int .u8 0), true, .array 32 1 false⟩ :=
  ⟨by kernel_rfl, by kernel_rfl, by kernel_rfl, by kernel_rfl, kArray (by kernel_rfl), fun _ => eqRow_of (ks := List.replicate 32 (some .u8)) (D := 12) (by decide) (by kernel_rfl) (by kernel_rfl) (by kernel_rfl) (by kernel_rfl)⟩
theorem row37 : RowOk Tryz.prog 37 ⟨true, 4, [.int .u64 0, .int .u64 0, .int .u64 0, .int .u64 0], true, .array 4 1 false⟩ :=
  ⟨by kernel_rfl, by kernel_rfl, by kernel_rfl, by kernel_rfl, kArray (by kernel_rfl), fun _ => eqRow_of (ks := [some .u64, some .u64, some .u64, some .u64]) (D := 12) (by decide) (by kernel_rfl) (by kernel_rfl) (by kernel_rfl) (by kernel_rfl)⟩
theorem row38 : RowOk Tryz.prog 38 ⟨true, 9, [.int .u64 0, .int .u64 0, .int .u64 0, .int .u64 0, .int .u64 0, .int .u64 0, .int .u64 0, .int .u64 0, .bool false], true, .struct [(0, 4, true), (4, 4, true), (8, 1, false)]⟩ :=
  ⟨by kernel_rfl, by kernel_rfl, by kernel_rfl, by kernel_rfl, kStruct (by kernel_rfl), fun _ => eqRow_of (ks := [some .u64, some .u64, some .u64, some .u64, some .u64, some .u64, some .u64, some .u64, none]) (D := 12) (by decide) (by kernel_rfl) (by kernel_rfl) (by kernel_rfl) (by kernel_rfl)⟩
theorem row39 : RowOk Tryz.prog 39 ⟨true, 9, [.int .u64 0, .int .u64 0, .int .u64 0, .int .u64 0, .int .u64 0, .int .u64 0, .int .u64 0, .int .u64 0, .bool false], true, .struct [(0, 4, true), (4, 4, true), (8, 1, false)]⟩ :=
  ⟨by kernel_rfl, by kernel_rfl, by kernel_rfl, by kernel_rfl, kStruct (by kernel_rfl), fun _ => eqRow_of (ks := [some .u64, some .u64, some .u64, some .u64, some .u64, some .u64, some .u64, some .u64, none]) (D := 12) (by decide) (by kernel_rfl) (by kernel_rfl) (by kernel_rfl) (by kernel_rfl)⟩
theorem row44 : RowOk Tryz.prog 44 ⟨true, 32, List.replicate 32 (.int .u8 0), true, .array 32 1 false⟩ :=
  ⟨by kernel_rfl, by kernel_rfl, by kernel_rfl, by kernel_rfl, kArray (by kernel_rfl), fun _ => eqRow_of (ks := List.replicate 32 (some .u8)) (D := 12) (by decide) (by kernel_rfl) (by kernel_rfl) (by kernel_rfl) (by kernel_rfl)⟩
theorem row53 : RowOk Tryz.prog 53 ⟨false, 1, [.slice none 0 0], false, .slice 25 1 24 false⟩ :=
  ⟨by kernel_rfl, by kernel_rfl, by kernel_rfl, by kernel_rfl, kSlice (by kernel_rfl), fun h => by cases h⟩
theorem row63 : RowOk Tryz.prog 63 ⟨true, 13, [.int .u64 0, .int .u64 0, .int .u64 0, .int .u64 0, .int .u64 0, .int .u64 0, .int .u64 0, .int .u64 0, .int .u64 0, .int .u64 0, .int .u64 0, .int .u64 0, .bool false], true, .struct [(0, 4, true), (4, 9, true)]⟩ :=
  ⟨by kernel_rfl, by kernel_rfl, by kernel_rfl, by kernel_rfl, kStruct (by kernel_rfl), fun _ => eqRow_of (ks := [some .u64, some .u64, some .u64, some .u64, some .u64, some .u64, some .u64, some .u64, some .u64, some .u64, some .u64, some .u64, none]) (D := 12) (by decide) (by kernel_rfl) (by kernel_rfl) (by kernel_rfl) (by kernel_rfl)⟩
theorem row64 : RowOk Tryz.prog 64 ⟨true, 13, [.int .u64 0, .int .u64 0, .int .u64 0, .int .u64 0, .int .u64 0, .int .u64 0, .int .u64 0, .int .u64 0, .int .u64 0, .int .u64 0, .int .u64 0, .int .u64 0, .bool false], true, .struct [(0, 4, true), (4, 9, true)]⟩ :=
  ⟨by kernel_rfl, by kernel_rfl, by kernel_rfl, by kernel_rfl, kStruct (by kernel_rfl), fun _ => eqRow_of (ks := [some .u64, some .u64, some .u64, some .u64, some .u64, some .u64, some .u64, some .u64, some .u64, some .u64, some .u64, some .u64, none]) (D := 12) (by decide) (by kernel_rfl) (by kernel_rfl) (by kernel_rfl) (by kernel_rfl)⟩
theorem row66 : RowOk Tryz.prog 66 ⟨false, 1, [.slice none 0 0], false, .slice 64 13 104 true⟩ :=
  ⟨by kernel_rfl, by kernel_rfl, by kernel_rfl, by kernel_rfl, kSlice (by kernel_rfl), fun h => by cases h⟩
theorem row68 : RowOk Tryz.prog 68 ⟨true, 4, [.int .u64 0, .int .u64 0, .int .u64 0, .int .u64 0], true, .array 4 1 false⟩ :=
  ⟨by kernel_rfl, by kernel_rfl, by kernel_rfl, by kernel_rfl, kArray (by kernel_rfl), fun _ => eqRow_of (ks := [some .u64, some .u64, some .u64, some .u64]) (D := 12) (by decide) (by kernel_rfl) (by kernel_rfl) (by kernel_rfl) (by kernel_rfl)⟩
theorem row71 : RowOk Tryz.prog 71 ⟨true, 3, [.int .u64 0, .int .u64 0, .int .u64 0], true, .array 3 1 false⟩ :=
  ⟨by kernel_rfl, by kernel_rfl, by kernel_rfl, by kernel_rfl, kArray (by kernel_rfl), fun _ => eqRow_of (ks := [some .u64, some .u64, some .u64]) (D := 12) (by decide) (by kernel_rfl) (by kernel_rfl) (by kernel_rfl) (by kernel_rfl)⟩
theorem row72 : RowOk Tryz.prog 72 ⟨true, 7, List.replicate 7 (.int .u64 0), true, .struct [(0, 4, true), (4, 3, true)]⟩ :=
  ⟨by kernel_rfl, by kernel_rfl, by kernel_rfl, by kernel_rfl, kStruct (by kernel_rfl), fun _ => eqRow_of (ks := List.replicate 7 (some .u64)) (D := 12) (by decide) (by kernel_rfl) (by kernel_rfl) (by kernel_rfl) (by kernel_rfl)⟩
theorem row73 : RowOk Tryz.prog 73 ⟨true, 7, List.replicate 7 (.int .u64 0), true, .struct [(0, 4, true), (4, 3, true)]⟩ :=
  ⟨by kernel_rfl, by kernel_rfl, by kernel_rfl, by kernel_rfl, kStruct (by kernel_rfl), fun _ => eqRow_of (ks := List.replicate 7 (some .u64)) (D := 12) (by decide) (by kernel_rfl) (by kernel_rfl) (by kernel_rfl) (by kernel_rfl)⟩
theorem row81 : RowOk Tryz.prog 81 ⟨false, 1, [.ptr none], false, .other⟩ :=
  ⟨by kernel_rfl, by kernel_rfl, by kernel_rfl, by kernel_rfl, trivial, fun h => by cases h⟩
theorem row86 : RowOk Tryz.prog 86 ⟨true, 8, List.replicate 8 (.int .u64 0), true, .array 8 1 false⟩ :=
  ⟨by kernel_rfl, by kernel_rfl, by kernel_rfl, by kernel_rfl, kArray (by kernel_rfl), fun _ => eqRow_of (ks := List.replicate 8 (some .u64)) (D := 12) (by decide) (by kernel_rfl) (by kernel_rfl) (by kernel_rfl) (by kernel_rfl)⟩
theorem row91 : RowOk Tryz.prog 91 ⟨false, 1, [.ptr none], false, .other⟩ :=
  ⟨by kernel_rfl, by kernel_rfl, by kernel_rfl, by kernel_rfl, trivial, fun h => by cases h⟩
theorem row95 : RowOk Tryz.prog 95 ⟨true, 12, List.replicate 12 (.int .u64 0), true, .struct [(0, 4, true), (4, 4, true), (8, 4, true)]⟩ :=
  ⟨by kernel_rfl, by kernel_rfl, by kernel_rfl, by kernel_rfl, kStruct (by kernel_rfl), fun _ => eqRow_of (ks := List.replicate 12 (some .u64)) (D := 12) (by decide) (by kernel_rfl) (by kernel_rfl) (by kernel_rfl) (by kernel_rfl)⟩
theorem row96 : RowOk Tryz.prog 96 ⟨true, 12, List.replicate 12 (.int .u64 0), true, .struct [(0, 4, true), (4, 4, true), (8, 4, true)]⟩ :=
  ⟨by kernel_rfl, by kernel_rfl, by kernel_rfl, by kernel_rfl, kStruct (by kernel_rfl), fun _ => eqRow_of (ks := List.replicate 12 (some .u64)) (D := 12) (by decide) (by kernel_rfl) (by kernel_rfl) (by kernel_rfl) (by kernel_rfl)⟩
theorem row107 : RowOk Tryz.prog 107 ⟨true, 12, List.replicate 12 (.int .u64 0), true, .struct [(0, 4, true), (4, 4, true), (8, 4, true)]⟩ :=
  ⟨by kernel_rfl, by kernel_rfl, by kernel_rfl, by kernel_rfl, kStruct (by kernel_rfl), fun _ => eqRow_of (ks := List.replicate 12 (some .u64)) (D := 12) (by decide) (by kernel_rfl) (by kernel_rfl) (by kernel_rfl) (by kernel_rfl)⟩
theorem row108 : RowOk Tryz.prog 108 ⟨true, 12, List.replicate 12 (.int .u64 0), true, .struct [(0, 4, true), (4, 4, true), (8, 4, true)]⟩ :=
  ⟨by kernel_rfl, by kernel_rfl, by kernel_rfl, by kernel_rfl, kStruct (by kernel_rfl), fun _ => eqRow_of (ks := List.replicate 12 (some .u64)) (D := 12) (by decide) (by kernel_rfl) (by kernel_rfl) (by kernel_rfl) (by kernel_rfl)⟩
theorem row123 : RowOk Tryz.prog 123 ⟨false, 1, [.int .u32 0], false, .int .u32⟩ :=
  ⟨by kernel_rfl, by kernel_rfl, by kernel_rfl, by kernel_rfl, (show Tryz.prog.underlying 123 = some (.int .u32) by kernel_rfl), fun h => by cases h⟩
theorem row124 : RowOk Tryz.prog 124 ⟨true, 8, List.replicate 8 (.int .u32 0), true, .array 8 1 false⟩ :=
  ⟨by kernel_rfl, by kernel_rfl, by kernel_rfl, by kernel_rfl, kArray (by kernel_rfl), fun _ => eqRow_of (ks := List.replicate 8 (some .u32)) (D := 12) (by decide) (by kernel_rfl) (by kernel_rfl) (by kernel_rfl) (by kernel_rfl)⟩
theorem row125 : RowOk Tryz.prog 125 ⟨true, 8, List.replicate 8 (.int .u32 0), true, .array 8 1 false⟩ :=
  ⟨by kernel_rfl, by kernel_rfl, by kernel_rfl, by kernel_rfl, kArray (by kernel_rfl), fun _ => eqRow_of (ks := List.replicate 8 (some .u32)) (D := 12) (by decide) (by kernel_rfl) (by kernel_rfl) (by kernel_rfl) (by kernel_rfl)⟩
theorem row127 : RowOk Tryz.prog 127 ⟨true, 10, [.int .u32 0, .int .u32 0, .int .u32 0, .int .u32 0, .int .u32 0, .int .u32 0, .int .u32 0, .int .u32 0, .slice none 0 0, .int .i64 0], false, .struct [(0, 8, true), (8, 1, false), (9, 1, false)]⟩ :=
  ⟨by kernel_rfl, by kernel_rfl, by kernel_rfl, by kernel_rfl, kStruct (by kernel_rfl), fun h => by cases h⟩
theorem row128 : RowOk Tryz.prog 128 ⟨true, 10, [.int .u32 0, .int .u32 0, .int .u32 0, .int .u32 0, .int .u32 0, .int .u32 0, .int .u32 0, .int .u32 0, .slice none 0 0, .int .i64 0], false, .struct [(0, 8, true), (8, 1, false), (9, 1, false)]⟩ :=
  ⟨by kernel_rfl, by kernel_rfl, by kernel_rfl, by kernel_rfl, kStruct (by kernel_rfl), fun h => by cases h⟩
theorem row131 : RowOk Tryz.prog 131 ⟨false, 1, [.slice none 0 0], false, .slice 22 1 8 false⟩ :=
  ⟨by kernel_rfl, by kernel_rfl, by kernel_rfl, by kernel_rfl, kSlice (by kernel_rfl), fun h => by cases h⟩
theorem row135 : RowOk Tryz.prog 135 ⟨true, 64, List.replicate 64 (.int .u32 0), true, .array 64 1 false⟩ :=
  ⟨by kernel_rfl, by kernel_rfl, by kernel_rfl, by kernel_rfl, kArray (by kernel_rfl), fun _ => eqRow_of (ks := List.replicate 64 (some .u32)) (D := 12) (by decide) (by kernel_rfl) (by kernel_rfl) (by kernel_rfl) (by kernel_rfl)⟩
theorem row137 : RowOk Tryz.prog 137 ⟨false, 1, [.int .u64 0], false, .int .u64⟩ :=
  ⟨by kernel_rfl, by kernel_rfl, by kernel_rfl, by kernel_rfl, (show Tryz.prog.underlying 137 = some (.int .u64) by kernel_rfl), fun h => by cases h⟩
theorem row142 : RowOk Tryz.prog 142 ⟨true, 192, List.replicate 192 (.int .u64 0), true, .array 16 12 true⟩ :=
  ⟨by kernel_rfl, by kernel_rfl, by kernel_rfl, by kernel_rfl, kArray (by kernel_rfl), fun _ => eqRow_of (ks := List.replicate 192 (some .u64)) (D := 12) (by decide) (by kernel_rfl) (by kernel_rfl) (by kernel_rfl) (by kernel_rfl)⟩
theorem row146 : RowOk Tryz.prog 146 ⟨true, 4, [.ptr none, .ptr none, .ptr none, .str ByteArray.empty], false, .struct [(0, 1, false), (1, 1, false), (2, 1, false), (3, 1, false)]⟩ :=
  ⟨by kernel_rfl, by kernel_rfl, by kernel_rfl, by kernel_rfl, kStruct (by kernel_rfl), fun h => by cases h⟩
theorem row147 : RowOk Tryz.prog 147 ⟨true, 4, [.ptr none, .ptr none, .ptr none, .str ByteArray.empty], false, .struct [(0, 1, false), (1, 1, false), (2, 1, false), (3, 1, false)]⟩ :=
  ⟨by kernel_rfl, by kernel_rfl, by kernel_rfl, by kernel_rfl, kStruct (by kernel_rfl), fun h => by cases h⟩
theorem row148 : RowOk Tryz.prog 148 ⟨true, 0, [], false, .array 0 1 false⟩ :=
  ⟨by kernel_rfl, by kernel_rfl, by kernel_rfl, by kernel_rfl, kArray (by kernel_rfl), fun h => by cases h⟩
theorem row152 : RowOk Tryz.prog 152 ⟨false, 1, [.int .u8 0], false, .int .u8⟩ :=
  ⟨by kernel_rfl, by kernel_rfl, by kernel_rfl, by kernel_rfl, (show Tryz.prog.underlying 152 = some (.int .u8) by kernel_rfl), fun h => by cases h⟩
theorem row153 : RowOk Tryz.prog 153 ⟨false, 1, [.int .u8 0], false, .int .u8⟩ :=
  ⟨by kernel_rfl, by kernel_rfl, by kernel_rfl, by kernel_rfl, (show Tryz.prog.underlying 153 = some (.int .u8) by kernel_rfl), fun h => by cases h⟩
theorem row155 : RowOk Tryz.prog 155 ⟨false, 1, [.ptr none], false, .other⟩ :=
  ⟨by kernel_rfl, by kernel_rfl, by kernel_rfl, by kernel_rfl, trivial, fun h => by cases h⟩
theorem row156 : RowOk Tryz.prog 156 ⟨false, 1, [.int .i32 0], false, .int .i32⟩ :=
  ⟨by kernel_rfl, by kernel_rfl, by kernel_rfl, by kernel_rfl, (show Tryz.prog.underlying 156 = some (.int .i32) by kernel_rfl), fun h => by cases h⟩
theorem row157 : RowOk Tryz.prog 157 ⟨false, 1, [.int .i32 0], false, .int .i32⟩ :=
  ⟨by kernel_rfl, by kernel_rfl, by kernel_rfl, by kernel_rfl, (show Tryz.prog.underlying 157 = some (.int .i32) by kernel_rfl), fun h => by cases h⟩
theorem row158 : RowOk Tryz.prog 158 ⟨true, 11, [.int .u64 0, .int .u64 0, .int .u32 0, .int .u8 0, .int .u8 0, .int .u8 0, .int .u8 0, .raw .nilFunc, .ptr none, .int .i32 0, .int .i32 0], false, .struct [(0, 1, false), (1, 1, false), (2, 1, false), (3, 1, false), (4, 1, false), (5, 1, false), (6, 1, false), (7, 1, false), (8, 1, false), (9, 1, false), (10, 1, false)]⟩ :=
  ⟨by kernel_rfl, by kernel_rfl, by kernel_rfl, by kernel_rfl, kStruct (by kernel_rfl), fun h => by cases h⟩
theorem row159 : RowOk Tryz.prog 159 ⟨true, 11, [.int .u64 0, .int .u64 0, .int .u32 0, .int .u8 0, .int .u8 0, .int .u8 0, .int .u8 0, .raw .nilFunc, .ptr none, .int .i32 0, .int .i32 0], false, .struct [(0, 1, false), (1, 1, false), (2, 1, false), (3, 1, false), (4, 1, false), (5, 1, false), (6, 1, false), (7, 1, false), (8, 1, false), (9, 1, false), (10, 1, false)]⟩ :=
  ⟨by kernel_rfl, by kernel_rfl, by kernel_rfl, by kernel_rfl, kStruct (by kernel_rfl), fun h => by cases h⟩
theorem tysOk : TysOk Tryz.prog TT := tysOk_of (by
  unfold TT
  simp only [List.forall_mem_cons]
  exact ⟨row2, row3, row4, row5, row9, row22, row23, row24, row25, row26, row27, row30, row31, row37, row38, row39, row44, row53, row63, row64, row66, row68, row71, row72, row73, row81, row86, row91, row95, row96, row107, row108, row123, row124, row125, row127, row128, row131, row135, row137, row142, row146, row147, row148, row152, row153, row155, row156, row157, row158, row159, fun _ h => by cases h⟩)
theorem p_add64 (W0 : World) : PrimOk Tryz.prog W0 52 .add64 := primOk_add64 Tryz.func52 (by kernel_rfl) (by kernel_rfl) (by kernel_rfl) (by kernel_rfl)
theorem p_sub64 (W0 : World) : PrimOk Tryz.prog W0 116 .sub64 := primOk_sub64 Tryz.func116 (by kernel_rfl) (by kernel_rfl) (by kernel_rfl) (by kernel_rfl)
theorem g0Ok (W0 : World) : CfgOk (G0 W0) := ⟨tysOk, (fun f p h => by
  change prim0 f = some p at h
  unfold prim0 at h
  split at h
  · simp only [Option.some.injEq] at h; subst h; exact p_add64 W0
  · simp only [Option.some.injEq] at h; subst h; exact p_sub64 W0
  · cases h), by kernel_rfl⟩
theorem hhOk (hm : ∀ W0, PrimOk Tryz.prog W0 98 .mul64) (A : Hv.Base) (ord : Nat → Option (List Nat)) : Hv.CfgOk (HHo A ord) := ⟨tysOk, (fun f p h W0 => by
  change prim1 f = some p at h
  unfold prim1 at h
  split at h
  · simp only [Option.some.injEq] at h; subst h; exact p_add64 W0
  · simp only [Option.some.injEq] at h; subst h; exact p_sub64 W0
  · simp only [Option.some.injEq] at h; subst h; exact hm W0
  · cases h), by kernel_rfl⟩
theorem ggOk (hm : ∀ W0, PrimOk Tryz.prog W0 98 .mul64) (W0 : World) : CfgOk (GG W0) := ⟨tysOk, (fun f p h => by
  change prim1 f = some p at h
  unfold prim1 at h
  split at h
  · simp only [Option.some.injEq] at h; subst h; exact p_add64 W0
  · simp only [Option.some.injEq] at h; subst h; exact p_sub64 W0
  · simp only [Option.some.injEq] at h; subst h; exact hm W0
  · cases h), by kernel_rfl⟩
end Go.Ev
