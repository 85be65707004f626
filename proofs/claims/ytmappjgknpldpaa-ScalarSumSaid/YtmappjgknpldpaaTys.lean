/- The types of this seat's program as the walk asks for them, each held against the program; its functions' numbers by their names. Written by a program of this session (tools/tys.py). -/
import Derived.Test.YtmappjgknpldpaaEvA
import Derived.Test.YtmappjgknpldpaaHvA
import Derived.Test.YtmappjgknpldpaaChecked
namespace Go.Ev
open Go.Proofs
def TT : Tys := [
  (2, ⟨false, 1, [.int .i64 0], false, .int .i64⟩),
  (3, ⟨false, 1, [.int .i64 0], false, .int .i64⟩),
  (4, ⟨false, 1, [.bool false], false, .bool⟩),
  (5, ⟨false, 1, [.int .u8 0], false, .int .u8⟩),
  (9, ⟨false, 1, [.str ByteArray.empty], false, .string⟩),
  (22, ⟨false, 1, [.int .u64 0], false, .int .u64⟩),
  (23, ⟨true, 4, [.int .u64 0, .int .u64 0, .int .u64 0, .int .u64 0], true, .array 4 1 false⟩),
  (24, ⟨true, 4, [.int .u64 0, .int .u64 0, .int .u64 0, .int .u64 0], true, .array 4 1 false⟩),
  (27, ⟨true, 4, [.int .u64 0, .int .u64 0, .int .u64 0, .int .u64 0], true, .array 4 1 false⟩),
  (29, ⟨true, 3, [.int .u64 0, .int .u64 0, .int .u64 0], true, .array 3 1 false⟩),
  (30, ⟨true, 7, List.replicate 7 (.int .u64 0), true, .struct [(0, 4, true), (4, 3, true)]⟩),
  (31, ⟨true, 7, List.replicate 7 (.int .u64 0), true, .struct [(0, 4, true), (4, 3, true)]⟩),
  (36, ⟨false, 1, [.slice none 0 0], false, .slice 24 4 32 true⟩),
  (44, ⟨true, 4, [.int .u64 0, .int .u64 0, .int .u64 0, .int .u64 0], true, .array 4 1 false⟩),
  (57, ⟨true, 32, List.replicate 32 (.int .u8 0), true, .array 32 1 false⟩),
  (59, ⟨false, 1, [.slice none 0 0], false, .slice 5 1 1 false⟩),
  (70, ⟨true, 8, List.replicate 8 (.int .u64 0), true, .array 8 1 false⟩),
  (72, ⟨false, 1, [.ptr none], false, .other⟩),
  (86, ⟨false, 1, [.slice none 0 0], false, .slice 22 1 8 false⟩),
  (90, ⟨false, 1, [.int .u64 0], false, .int .u64⟩),
  (93, ⟨true, 4, [.ptr none, .ptr none, .ptr none, .str ByteArray.empty], false, .struct [(0, 1, false), (1, 1, false), (2, 1, false), (3, 1, false)]⟩),
  (94, ⟨true, 4, [.ptr none, .ptr none, .ptr none, .str ByteArray.empty], false, .struct [(0, 1, false), (1, 1, false), (2, 1, false), (3, 1, false)]⟩),
  (95, ⟨true, 0, [], false, .array 0 1 false⟩),
  (99, ⟨false, 1, [.int .u32 0], false, .int .u32⟩),
  (100, ⟨false, 1, [.int .u8 0], false, .int .u8⟩),
  (101, ⟨false, 1, [.int .u8 0], false, .int .u8⟩),
  (103, ⟨false, 1, [.ptr none], false, .other⟩),
  (104, ⟨false, 1, [.int .i32 0], false, .int .i32⟩),
  (105, ⟨false, 1, [.int .i32 0], false, .int .i32⟩),
  (106, ⟨true, 11, [.int .u64 0, .int .u64 0, .int .u32 0, .int .u8 0, .int .u8 0, .int .u8 0, .int .u8 0, .raw .nilFunc, .ptr none, .int .i32 0, .int .i32 0], false, .struct [(0, 1, false), (1, 1, false), (2, 1, false), (3, 1, false), (4, 1, false), (5, 1, false), (6, 1, false), (7, 1, false), (8, 1, false), (9, 1, false), (10, 1, false)]⟩),
  (107, ⟨true, 11, [.int .u64 0, .int .u64 0, .int .u32 0, .int .u8 0, .int .u8 0, .int .u8 0, .int .u8 0, .raw .nilFunc, .ptr none, .int .i32 0, .int .i32 0], false, .struct [(0, 1, false), (1, 1, false), (2, 1, false), (3, 1, false), (4, 1, false), (5, 1, false), (6, 1, false), (7, 1, false), (8, 1, false), (9, 1, false), (10, 1, false)]⟩)]
noncomputable abbrev PG : Program := Try.prog
abbrev f_law04_ScalarTimes : Nat := 3
noncomputable abbrev F_law04_ScalarTimes : Func := Try.f3
theorem h_law04_ScalarTimes : Try.prog.funcs[f_law04_ScalarTimes]? = some F_law04_ScalarTimes := Try.func3
abbrev f_law04_ScalarSum : Nat := 4
noncomputable abbrev F_law04_ScalarSum : Func := Try.f4
theorem h_law04_ScalarSum : Try.prog.funcs[f_law04_ScalarSum]? = some F_law04_ScalarSum := Try.func4
abbrev f_law04_ScalarSums : Nat := 5
noncomputable abbrev F_law04_ScalarSums : Func := Try.f5
theorem h_law04_ScalarSums : Try.prog.funcs[f_law04_ScalarSums]? = some F_law04_ScalarSums := Try.func5
abbrev f_law04_ScalarLaws : Nat := 6
noncomputable abbrev F_law04_ScalarLaws : Func := Try.f6
theorem h_law04_ScalarLaws : Try.prog.funcs[f_law04_ScalarLaws]? = some F_law04_ScalarLaws := Try.func6
abbrev f_law04_ScalarInv : Nat := 7
noncomputable abbrev F_law04_ScalarInv : Func := Try.f7
theorem h_law04_ScalarInv : Try.prog.funcs[f_law04_ScalarInv]? = some F_law04_ScalarInv := Try.func7
abbrev f_law03_FeTimes : Nat := 8
noncomputable abbrev F_law03_FeTimes : Func := Try.f8
theorem h_law03_FeTimes : Try.prog.funcs[f_law03_FeTimes]? = some F_law03_FeTimes := Try.func8
abbrev f_law03_FeRoots : Nat := 9
noncomputable abbrev F_law03_FeRoots : Func := Try.f9
theorem h_law03_FeRoots : Try.prog.funcs[f_law03_FeRoots]? = some F_law03_FeRoots := Try.func9
abbrev f_law03_FeSums : Nat := 10
noncomputable abbrev F_law03_FeSums : Func := Try.f10
theorem h_law03_FeSums : Try.prog.funcs[f_law03_FeSums]? = some F_law03_FeSums := Try.func10
abbrev f_law03_FeLaws : Nat := 11
noncomputable abbrev F_law03_FeLaws : Func := Try.f11
theorem h_law03_FeLaws : Try.prog.funcs[f_law03_FeLaws]? = some F_law03_FeLaws := Try.func11
abbrev f_law03_FeInv : Nat := 12
noncomputable abbrev F_law03_FeInv : Func := Try.f12
theorem h_law03_FeInv : Try.prog.funcs[f_law03_FeInv]? = some F_law03_FeInv := Try.func12
abbrev f_law04_ScalarBytes : Nat := 13
noncomputable abbrev F_law04_ScalarBytes : Func := Try.f13
theorem h_law04_ScalarBytes : Try.prog.funcs[f_law04_ScalarBytes]? = some F_law04_ScalarBytes := Try.func13
abbrev f_law04_ScalarBack : Nat := 14
noncomputable abbrev F_law04_ScalarBack : Func := Try.f14
theorem h_law04_ScalarBack : Try.prog.funcs[f_law04_ScalarBack]? = some F_law04_ScalarBack := Try.func14
abbrev f_law03_FeBytes : Nat := 15
noncomputable abbrev F_law03_FeBytes : Func := Try.f15
theorem h_law03_FeBytes : Try.prog.funcs[f_law03_FeBytes]? = some F_law03_FeBytes := Try.func15
abbrev f_law03_FeBack : Nat := 16
noncomputable abbrev F_law03_FeBack : Func := Try.f16
theorem h_law03_FeBack : Try.prog.funcs[f_law03_FeBack]? = some F_law03_FeBack := Try.func16
abbrev f_scalar_Mul : Nat := 17
noncomputable abbrev F_scalar_Mul : Func := Try.f17
theorem h_scalar_Mul : Try.prog.funcs[f_scalar_Mul]? = some F_scalar_Mul := Try.func17
abbrev f_ref03_Scalar : Nat := 18
noncomputable abbrev F_ref03_Scalar : Func := Try.f18
theorem h_ref03_Scalar : Try.prog.funcs[f_ref03_Scalar]? = some F_ref03_Scalar := Try.func18
abbrev f_ref03_Mul : Nat := 19
noncomputable abbrev F_ref03_Mul : Func := Try.f19
theorem h_ref03_Mul : Try.prog.funcs[f_ref03_Mul]? = some F_ref03_Mul := Try.func19
abbrev f_ref03_N : Nat := 20
noncomputable abbrev F_ref03_N : Func := Try.f20
theorem h_ref03_N : Try.prog.funcs[f_ref03_N]? = some F_ref03_N := Try.func20
abbrev f_ref03_OfScalar : Nat := 21
noncomputable abbrev F_ref03_OfScalar : Func := Try.f21
theorem h_ref03_OfScalar : Try.prog.funcs[f_ref03_OfScalar]? = some F_ref03_OfScalar := Try.func21
abbrev f_law04_alive : Nat := 22
noncomputable abbrev F_law04_alive : Func := Try.f22
theorem h_law04_alive : Try.prog.funcs[f_law04_alive]? = some F_law04_alive := Try.func22
abbrev f_scalar_Of : Nat := 23
noncomputable abbrev F_scalar_Of : Func := Try.f23
theorem h_scalar_Of : Try.prog.funcs[f_scalar_Of]? = some F_scalar_Of := Try.func23
abbrev f_scalar_Add : Nat := 24
noncomputable abbrev F_scalar_Add : Func := Try.f24
theorem h_scalar_Add : Try.prog.funcs[f_scalar_Add]? = some F_scalar_Add := Try.func24
abbrev f_scalar_Sum : Nat := 25
noncomputable abbrev F_scalar_Sum : Func := Try.f25
theorem h_scalar_Sum : Try.prog.funcs[f_scalar_Sum]? = some F_scalar_Sum := Try.func25
abbrev f_scalar_Norm : Nat := 26
noncomputable abbrev F_scalar_Norm : Func := Try.f26
theorem h_scalar_Norm : Try.prog.funcs[f_scalar_Norm]? = some F_scalar_Norm := Try.func26
abbrev f_ref03_Norm : Nat := 27
noncomputable abbrev F_ref03_Norm : Func := Try.f27
theorem h_ref03_Norm : Try.prog.funcs[f_ref03_Norm]? = some F_ref03_Norm := Try.func27
abbrev f_ref03_Add : Nat := 28
noncomputable abbrev F_ref03_Add : Func := Try.f28
theorem h_ref03_Add : Try.prog.funcs[f_ref03_Add]? = some F_ref03_Add := Try.func28
abbrev f_scalar_Neg : Nat := 29
noncomputable abbrev F_scalar_Neg : Func := Try.f29
theorem h_scalar_Neg : Try.prog.funcs[f_scalar_Neg]? = some F_scalar_Neg := Try.func29
abbrev f_ref03_Neg : Nat := 30
noncomputable abbrev F_ref03_Neg : Func := Try.f30
theorem h_ref03_Neg : Try.prog.funcs[f_ref03_Neg]? = some F_ref03_Neg := Try.func30
abbrev f_scalar_Sub : Nat := 31
noncomputable abbrev F_scalar_Sub : Func := Try.f31
theorem h_scalar_Sub : Try.prog.funcs[f_scalar_Sub]? = some F_scalar_Sub := Try.func31
abbrev f_ref03_Sub : Nat := 32
noncomputable abbrev F_ref03_Sub : Func := Try.f32
theorem h_ref03_Sub : Try.prog.funcs[f_ref03_Sub]? = some F_ref03_Sub := Try.func32
abbrev f_scalar_Inv : Nat := 33
noncomputable abbrev F_scalar_Inv : Func := Try.f33
theorem h_scalar_Inv : Try.prog.funcs[f_scalar_Inv]? = some F_scalar_Inv := Try.func33
abbrev f_ref03_Inv : Nat := 34
noncomputable abbrev F_ref03_Inv : Func := Try.f34
theorem h_ref03_Inv : Try.prog.funcs[f_ref03_Inv]? = some F_ref03_Inv := Try.func34
abbrev f_fe_Mul : Nat := 35
noncomputable abbrev F_fe_Mul : Func := Try.f35
theorem h_fe_Mul : Try.prog.funcs[f_fe_Mul]? = some F_fe_Mul := Try.func35
abbrev f_ref03_Fe : Nat := 36
noncomputable abbrev F_ref03_Fe : Func := Try.f36
theorem h_ref03_Fe : Try.prog.funcs[f_ref03_Fe]? = some F_ref03_Fe := Try.func36
abbrev f_ref03_P : Nat := 37
noncomputable abbrev F_ref03_P : Func := Try.f37
theorem h_ref03_P : Try.prog.funcs[f_ref03_P]? = some F_ref03_P := Try.func37
abbrev f_ref03_Of : Nat := 38
noncomputable abbrev F_ref03_Of : Func := Try.f38
theorem h_ref03_Of : Try.prog.funcs[f_ref03_Of]? = some F_ref03_Of := Try.func38
abbrev f_law03_alive : Nat := 39
noncomputable abbrev F_law03_alive : Func := Try.f39
theorem h_law03_alive : Try.prog.funcs[f_law03_alive]? = some F_law03_alive := Try.func39
abbrev f_fe_Sqrt : Nat := 40
noncomputable abbrev F_fe_Sqrt : Func := Try.f40
theorem h_fe_Sqrt : Try.prog.funcs[f_fe_Sqrt]? = some F_fe_Sqrt := Try.func40
abbrev f_ref03_Sqrt : Nat := 41
noncomputable abbrev F_ref03_Sqrt : Func := Try.f41
theorem h_ref03_Sqrt : Try.prog.funcs[f_ref03_Sqrt]? = some F_ref03_Sqrt := Try.func41
abbrev f_fe_Odd : Nat := 42
noncomputable abbrev F_fe_Odd : Func := Try.f42
theorem h_fe_Odd : Try.prog.funcs[f_fe_Odd]? = some F_fe_Odd := Try.func42
abbrev f_fe_Norm : Nat := 43
noncomputable abbrev F_fe_Norm : Func := Try.f43
theorem h_fe_Norm : Try.prog.funcs[f_fe_Norm]? = some F_fe_Norm := Try.func43
abbrev f_fe_Neg : Nat := 44
noncomputable abbrev F_fe_Neg : Func := Try.f44
theorem h_fe_Neg : Try.prog.funcs[f_fe_Neg]? = some F_fe_Neg := Try.func44
abbrev f_fe_Add : Nat := 45
noncomputable abbrev F_fe_Add : Func := Try.f45
theorem h_fe_Add : Try.prog.funcs[f_fe_Add]? = some F_fe_Add := Try.func45
abbrev f_fe_Sub : Nat := 46
noncomputable abbrev F_fe_Sub : Func := Try.f46
theorem h_fe_Sub : Try.prog.funcs[f_fe_Sub]? = some F_fe_Sub := Try.func46
abbrev f_fe_Of : Nat := 47
noncomputable abbrev F_fe_Of : Func := Try.f47
theorem h_fe_Of : Try.prog.funcs[f_fe_Of]? = some F_fe_Of := Try.func47
abbrev f_fe_Inv : Nat := 48
noncomputable abbrev F_fe_Inv : Func := Try.f48
theorem h_fe_Inv : Try.prog.funcs[f_fe_Inv]? = some F_fe_Inv := Try.func48
abbrev f_scalar_Bytes : Nat := 49
noncomputable abbrev F_scalar_Bytes : Func := Try.f49
theorem h_scalar_Bytes : Try.prog.funcs[f_scalar_Bytes]? = some F_scalar_Bytes := Try.func49
abbrev f_ref03_Bytes : Nat := 50
noncomputable abbrev F_ref03_Bytes : Func := Try.f50
theorem h_ref03_Bytes : Try.prog.funcs[f_ref03_Bytes]? = some F_ref03_Bytes := Try.func50
abbrev f_ref03_Number : Nat := 51
noncomputable abbrev F_ref03_Number : Func := Try.f51
theorem h_ref03_Number : Try.prog.funcs[f_ref03_Number]? = some F_ref03_Number := Try.func51
abbrev f_ref03_Right : Nat := 52
noncomputable abbrev F_ref03_Right : Func := Try.f52
theorem h_ref03_Right : Try.prog.funcs[f_ref03_Right]? = some F_ref03_Right := Try.func52
abbrev f_scalar_Read : Nat := 53
noncomputable abbrev F_scalar_Read : Func := Try.f53
theorem h_scalar_Read : Try.prog.funcs[f_scalar_Read]? = some F_scalar_Read := Try.func53
abbrev f_scalar_Reduce : Nat := 54
noncomputable abbrev F_scalar_Reduce : Func := Try.f54
theorem h_scalar_Reduce : Try.prog.funcs[f_scalar_Reduce]? = some F_scalar_Reduce := Try.func54
abbrev f_fe_Bytes : Nat := 55
noncomputable abbrev F_fe_Bytes : Func := Try.f55
theorem h_fe_Bytes : Try.prog.funcs[f_fe_Bytes]? = some F_fe_Bytes := Try.func55
abbrev f_fe_Read : Nat := 56
noncomputable abbrev F_fe_Read : Func := Try.f56
theorem h_fe_Read : Try.prog.funcs[f_fe_Read]? = some F_fe_Read := Try.func56
abbrev f_scalar_gather : Nat := 57
noncomputable abbrev F_scalar_gather : Func := Try.f57
theorem h_scalar_gather : Try.prog.funcs[f_scalar_gather]? = some F_scalar_gather := Try.func57
abbrev f_scalar_folded : Nat := 58
noncomputable abbrev F_scalar_folded : Func := Try.f58
theorem h_scalar_folded : Try.prog.funcs[f_scalar_folded]? = some F_scalar_folded := Try.func58
abbrev f_bits_Mul64 : Nat := 59
noncomputable abbrev F_bits_Mul64 : Func := Try.f59
theorem h_bits_Mul64 : Try.prog.funcs[f_bits_Mul64]? = some F_bits_Mul64 := Try.func59
abbrev f_bits_Add64 : Nat := 60
noncomputable abbrev F_bits_Add64 : Func := Try.f60
theorem h_bits_Add64 : Try.prog.funcs[f_bits_Add64]? = some F_bits_Add64 := Try.func60
abbrev f_ref03_fold : Nat := 61
noncomputable abbrev F_ref03_fold : Func := Try.f61
theorem h_ref03_fold : Try.prog.funcs[f_ref03_fold]? = some F_ref03_fold := Try.func61
abbrev f_scalar_minus : Nat := 62
noncomputable abbrev F_scalar_minus : Func := Try.f62
theorem h_scalar_minus : Try.prog.funcs[f_scalar_minus]? = some F_scalar_minus := Try.func62
abbrev f_scalar_order : Nat := 63
noncomputable abbrev F_scalar_order : Func := Try.f63
theorem h_scalar_order : Try.prog.funcs[f_scalar_order]? = some F_scalar_order := Try.func63
abbrev f_ref03_below : Nat := 64
noncomputable abbrev F_ref03_below : Func := Try.f64
theorem h_ref03_below : Try.prog.funcs[f_ref03_below]? = some F_ref03_below := Try.func64
abbrev f_ref03_minus : Nat := 65
noncomputable abbrev F_ref03_minus : Func := Try.f65
theorem h_ref03_minus : Try.prog.funcs[f_ref03_minus]? = some F_ref03_minus := Try.func65
abbrev f_ref03_Power : Nat := 66
noncomputable abbrev F_ref03_Power : Func := Try.f66
theorem h_ref03_Power : Try.prog.funcs[f_ref03_Power]? = some F_ref03_Power := Try.func66
abbrev f_ref03_Small : Nat := 67
noncomputable abbrev F_ref03_Small : Func := Try.f67
theorem h_ref03_Small : Try.prog.funcs[f_ref03_Small]? = some F_ref03_Small := Try.func67
abbrev f_fe_times : Nat := 68
noncomputable abbrev F_fe_times : Func := Try.f68
theorem h_fe_times : Try.prog.funcs[f_fe_times]? = some F_fe_times := Try.func68
abbrev f_fe_plus : Nat := 69
noncomputable abbrev F_fe_plus : Func := Try.f69
theorem h_fe_plus : Try.prog.funcs[f_fe_plus]? = some F_fe_plus := Try.func69
abbrev f_fe_prime : Nat := 70
noncomputable abbrev F_fe_prime : Func := Try.f70
theorem h_fe_prime : Try.prog.funcs[f_fe_prime]? = some F_fe_prime := Try.func70
abbrev f_fe_power : Nat := 71
noncomputable abbrev F_fe_power : Func := Try.f71
theorem h_fe_power : Try.prog.funcs[f_fe_power]? = some F_fe_power := Try.func71
abbrev f_ref03_add : Nat := 72
noncomputable abbrev F_ref03_add : Func := Try.f72
theorem h_ref03_add : Try.prog.funcs[f_ref03_add]? = some F_ref03_add := Try.func72
abbrev f_fe_minus : Nat := 73
noncomputable abbrev F_fe_minus : Func := Try.f73
theorem h_fe_minus : Try.prog.funcs[f_fe_minus]? = some F_fe_minus := Try.func73
abbrev f_scalar_words : Nat := 74
noncomputable abbrev F_scalar_words : Func := Try.f74
theorem h_scalar_words : Try.prog.funcs[f_scalar_words]? = some F_scalar_words := Try.func74
abbrev f_scalar_less : Nat := 75
noncomputable abbrev F_scalar_less : Func := Try.f75
theorem h_scalar_less : Try.prog.funcs[f_scalar_less]? = some F_scalar_less := Try.func75
abbrev f_bits_Sub64 : Nat := 76
noncomputable abbrev F_bits_Sub64 : Func := Try.f76
theorem h_bits_Sub64 : Try.prog.funcs[f_bits_Sub64]? = some F_bits_Sub64 := Try.func76
abbrev t_int : Nat := 3
abbrev t_bool : Nat := 4
abbrev t_uint8 : Nat := 5
abbrev t_string : Nat := 9
abbrev t_uint64 : Nat := 22
abbrev t_a4_uint64 : Nat := 23
abbrev t_api_Scalar : Nat := 24
abbrev t_tollhouseref03_Num : Nat := 27
abbrev t_a3_uint64 : Nat := 29
abbrev t_tollhouseref03_Mod : Nat := 31
abbrev t_s_api_Scalar : Nat := 36
abbrev t_api_Fe : Nat := 44
abbrev t_a32_uint8 : Nat := 57
abbrev t_s_uint8 : Nat := 59
abbrev t_a8_uint64 : Nat := 70
abbrev t_s_uint64 : Nat := 86
abbrev t_uint32 : Nat := 99
def prim0 : Nat → Option Prim
  | 60 => some .add64
  | 76 => some .sub64
  | _ => none
def prim1 : Nat → Option Prim
  | 60 => some .add64
  | 76 => some .sub64
  | 59 => some .mul64
  | _ => none
def rd : Nat → Bool
  | 57 => false
  | 50 => false
  | _ => true
def hk : Nat → Nat
  | 4 => 1
  | 25 => 1
  | 50 => 2
  | 51 => 1
  | 57 => 3
  | 77 => 1
  | 79 => 1
  | 80 => 1
  | 81 => 1
  | 82 => 1
  | 83 => 1
  | 84 => 1
  | 85 => 1
  | 86 => 1
  | 87 => 1
  | 88 => 1
  | 89 => 1
  | 90 => 1
  | 91 => 1
  | 92 => 1
  | _ => 0
noncomputable def HHo (A : Hv.Base) (ord : Nat → Option (List Nat)) : Hv.Cfg := ⟨Try.prog, A, TT, prim1, hk, ord⟩
noncomputable abbrev HH (A : Hv.Base) : Hv.Cfg := HHo A (fun _ => none)
noncomputable def G0 (W0 : World) : Cfg := ⟨Try.prog, W0, TT, prim0, rd⟩
noncomputable def GG (W0 : World) : Cfg := ⟨Try.prog, W0, TT, prim1, rd⟩
theorem row2 : RowOk Try.prog 2 ⟨false, 1, [.int .i64 0], false, .int .i64⟩ :=
  ⟨by kernel_rfl, by kernel_rfl, by kernel_rfl, by kernel_rfl, (show Try.prog.underlying 2 = some (.int .i64) by kernel_rfl), fun h => by cases h⟩
theorem row3 : RowOk Try.prog 3 ⟨false, 1, [.int .i64 0], false, .int .i64⟩ :=
  ⟨by kernel_rfl, by kernel_rfl, by kernel_rfl, by kernel_rfl, (show Try.prog.underlying 3 = some (.int .i64) by kernel_rfl), fun h => by cases h⟩
theorem row4 : RowOk Try.prog 4 ⟨false, 1, [.bool false], false, .bool⟩ :=
  ⟨by kernel_rfl, by kernel_rfl, by kernel_rfl, by kernel_rfl, (show Try.prog.underlying 4 = some (.bool) by kernel_rfl), fun h => by cases h⟩
theorem row5 : RowOk Try.prog 5 ⟨false, 1, [.int .u8 0], false, .int .u8⟩ :=
  ⟨by kernel_rfl, by kernel_rfl, by kernel_rfl, by kernel_rfl, (show Try.prog.underlying 5 = some (.int .u8) by kernel_rfl), fun h => by cases h⟩
theorem row9 : RowOk Try.prog 9 ⟨false, 1, [.str ByteArray.empty], false, .string⟩ :=
  ⟨by kernel_rfl, by kernel_rfl, by kernel_rfl, by kernel_rfl, (show Try.prog.underlying 9 = some (.string) by kernel_rfl), fun h => by cases h⟩
theorem row22 : RowOk Try.prog 22 ⟨false, 1, [.int .u64 0], false, .int .u64⟩ :=
  ⟨by kernel_rfl, by kernel_rfl, by kernel_rfl, by kernel_rfl, (show Try.prog.underlying 22 = some (.int .u64) by kernel_rfl), fun h => by cases h⟩
theorem row23 : RowOk Try.prog 23 ⟨true, 4, [.int .u64 0, .int .u64 0, .int .u64 0, .int .u64 0], true, .array 4 1 false⟩ :=
  ⟨by kernel_rfl, by kernel_rfl, by kernel_rfl, by kernel_rfl, kArray (by kernel_rfl), fun _ => eqRow_of (ks := [some .u64, some .u64, some .u64, some .u64]) (D := 12) (by decide) (by kernel_rfl) (by kernel_rfl) (by kernel_rfl) (by kernel_rfl)⟩
theorem row24 : RowOk Try.prog 24 ⟨true, 4, [.int .u64 0, .int .u64 0, .int .u64 0, .int .u64 0], true, .array 4 1 false⟩ :=
  ⟨by kernel_rfl, by kernel_rfl, by kernel_rfl, by kernel_rfl, kArray (by kernel_rfl), fun _ => eqRow_of (ks := [some .u64, some .u64, some .u64, some .u64]) (D := 12) (by decide) (by kernel_rfl) (by kernel_rfl) (by kernel_rfl) (by kernel_rfl)⟩
theorem row27 : RowOk Try.prog 27 ⟨true, 4, [.int .u64 0, .int .u64 0, .int .u64 0, .int .u64 0], true, .array 4 1 false⟩ :=
  ⟨by kernel_rfl, by kernel_rfl, by kernel_rfl, by kernel_rfl, kArray (by kernel_rfl), fun _ => eqRow_of (ks := [some .u64, some .u64, some .u64, some .u64]) (D := 12) (by decide) (by kernel_rfl) (by kernel_rfl) (by kernel_rfl) (by kernel_rfl)⟩
theorem row29 : RowOk Try.prog 29 ⟨true, 3, [.int .u64 0, .int .u64 0, .int .u64 0], true, .array 3 1 false⟩ :=
  ⟨by kernel_rfl, by kernel_rfl, by kernel_rfl, by kernel_rfl, kArray (by kernel_rfl), fun _ => eqRow_of (ks := [some .u64, some .u64, some .u64]) (D := 12) (by decide) (by kernel_rfl) (by kernel_rfl) (by kernel_rfl) (by kernel_rfl)⟩
theorem row30 : RowOk Try.prog 30 ⟨true, 7, List.replicate 7 (.int .u64 0), true, .struct [(0, 4, true), (4, 3, true)]⟩ :=
  ⟨by kernel_rfl, by kernel_rfl, by kernel_rfl, by kernel_rfl, kStruct (by kernel_rfl), fun _ => eqRow_of (ks := List.replicate 7 (some .u64)) (D := 12) (by decide) (by kernel_rfl) (by kernel_rfl) (by kernel_rfl) (by kernel_rfl)⟩
theorem row31 : RowOk Try.prog 31 ⟨true, 7, List.replicate 7 (.int .u64 0), true, .struct [(0, 4, true), (4, 3, true)]⟩ :=
  ⟨by kernel_rfl, by kernel_rfl, by kernel_rfl, by kernel_rfl, kStruct (by kernel_rfl), fun _ => eqRow_of (ks := List.replicate 7 (some .u64)) (D := 12) (by decide) (by kernel_rfl) (by kernel_rfl) (by kernel_rfl) (by kernel_rfl)⟩
theorem row36 : RowOk Try.prog 36 ⟨false, 1, [.slice none 0 0], false, .slice 24 4 32 true⟩ :=
  ⟨by kernel_rfl, by kernel_rfl, by kernel_rfl, by kernel_rfl, kSlice (by kernel_rfl), fun h => by cases h⟩
theorem row44 : RowOk Try.prog 44 ⟨true, 4, [.int .u64 0, .int .u64 0, .int .u64 0, .int .u64 0], true, .array 4 1 false⟩ :=
  ⟨by kernel_rfl, by kernel_rfl, by kernel_rfl, by kernel_rfl, kArray (by kernel_rfl), fun _ => eqRow_of (ks := [some .u64, some .u64, some .u64, some .u64]) (D := 12) (by decide) (by kernel_rfl) (by kernel_rfl) (by kernel_rfl) (by kernel_rfl)⟩
theorem row57 : RowOk Try.prog 57 ⟨true, 32, List.replicate 32 (.int .u8 0), true, .array 32 1 false⟩ :=
  ⟨by kernel_rfl, by kernel_rfl, by kernel_rfl, by kernel_rfl, kArray (by kernel_rfl), fun _ => eqRow_of (ks := List.replicate 32 (some .u8)) (D := 12) (by decide) (by kernel_rfl) (by kernel_rfl) (by kernel_rfl) (by kernel_rfl)⟩
theorem row59 : RowOk Try.prog 59 ⟨false, 1, [.slice none 0 0], false, .slice 5 1 1 false⟩ :=
  ⟨by kernel_rfl, by kernel_rfl, by kernel_rfl, by kernel_rfl, kSlice (by kernel_rfl), fun h => by cases h⟩
theorem row70 : RowOk Try.prog 70 ⟨true, 8, List.replicate 8 (.int .u64 0), true, .array 8 1 false⟩ :=
  ⟨by kernel_rfl, by kernel_rfl, by kernel_rfl, by kernel_rfl, kArray (by kernel_rfl), fun _ => eqRow_of (ks := List.replicate 8 (some .u64)) (D := 12) (by decide) (by kernel_rfl) (by kernel_rfl) (by kernel_rfl) (by kernel_rfl)⟩
theorem row72 : RowOk Try.prog 72 ⟨false, 1, [.ptr none], false, .other⟩ :=
  ⟨by kernel_rfl, by kernel_rfl, by kernel_rfl, by kernel_rfl, trivial, fun h => by cases h⟩
theorem row86 : RowOk Try.prog 86 ⟨false, 1, [.slice none 0 0], false, .slice 22 1 8 false⟩ :=
  ⟨by kernel_rfl, by kernel_rfl, by kernel_rfl, by kernel_rfl, kSlice (by kernel_rfl), fun h => by cases h⟩
theorem row90 : RowOk Try.prog 90 ⟨false, 1, [.int .u64 0], false, .int .u64⟩ :=
  ⟨by kernel_rfl, by kernel_rfl, by kernel_rfl, by kernel_rfl, (show Try.prog.underlying 90 = some (.int .u64) by kernel_rfl), fun h => by cases h⟩
theorem row93 : RowOk Try.prog 93 ⟨true, 4, [.ptr none, .ptr none, .ptr none, .str ByteArray.empty], false, .struct [(0, 1, false), (1, 1, false), (2, 1, false), (3, 1, false)]⟩ :=
  ⟨by kernel_rfl, by kernel_rfl, by kernel_rfl, by kernel_rfl, kStruct (by kernel_rfl), fun h => by cases h⟩
theorem row94 : RowOk Try.prog 94 ⟨true, 4, [.ptr none, .ptr none, .ptr none, .str ByteArray.empty], false, .struct [(0, 1, false), (1, 1, false), (2, 1, false), (3, 1, false)]⟩ :=
  ⟨by kernel_rfl, by kernel_rfl, by kernel_rfl, by kernel_rfl, kStruct (by kernel_rfl), fun h => by cases h⟩
theorem row95 : RowOk Try.prog 95 ⟨true, 0, [], false, .array 0 1 false⟩ :=
  ⟨by kernel_rfl, by kernel_rfl, by kernel_rfl, by kernel_rfl, kArray (by kernel_rfl), fun h => by cases h⟩
theorem row99 : RowOk Try.prog 99 ⟨false, 1, [.int .u32 0], false, .int .u32⟩ :=
  ⟨by kernel_rfl, by kernel_rfl, by kernel_rfl, by kernel_rfl, (show Try.prog.underlying 99 = some (.int .u32) by kernel_rfl), fun h => by cases h⟩
theorem row100 : RowOk Try.prog 100 ⟨false, 1, [.int .u8 0], false, .int .u8⟩ :=
  ⟨by kernel_rfl, by kernel_rfl, by kernel_rfl, by kernel_rfl, (show Try.prog.underlying 100 = some (.int .u8) by kernel_rfl), fun h => by cases h⟩
theorem row101 : RowOk Try.prog 101 ⟨false, 1, [.int .u8 0], false, .int .u8⟩ :=
  ⟨by kernel_rfl, by kernel_rfl, by kernel_rfl, by kernel_rfl, (show Try.prog.underlying 101 = some (.int .u8) by kernel_rfl), fun h => by cases h⟩
theorem row103 : RowOk Try.prog 103 ⟨false, 1, [.ptr none], false, .other⟩ :=
  ⟨by kernel_rfl, by kernel_rfl, by kernel_rfl, by kernel_rfl, trivial, fun h => by cases h⟩
theorem row104 : RowOk Try.prog 104 ⟨false, 1, [.int .i32 0], false, .int .i32⟩ :=
  ⟨by kernel_rfl, by kernel_rfl, by kernel_rfl, by kernel_rfl, (show Try.prog.underlying 104 = some (.int .i32) by kernel_rfl), fun h => by cases h⟩
theorem row105 : RowOk Try.prog 105 ⟨false, 1, [.int .i32 0], false, .int .i32⟩ :=
  ⟨by kernel_rfl, by kernel_rfl, by kernel_rfl, by kernel_rfl, (show Try.prog.underlying 105 = some (.int .i32) by kernel_rfl), fun h => by cases h⟩
theorem row106 : RowOk Try.prog 106 ⟨true, 11, [.int .u64 0, .int .u64 0, .int .u32 0, .int .u8 0, .int .u8 0, .int .u8 0, .int .u8 0, .raw .nilFunc, .ptr none, .int .i32 0, .int .i32 0], false, .struct [(0, 1, false), (1, 1, false), (2, 1, false), (3, 1, false), (4, 1, false), (5, 1, false), (6, 1, false), (7, 1, false), (8, 1, false), (9, 1, false), (10, 1, false)]⟩ :=
  ⟨by kernel_rfl, by kernel_rfl, by kernel_rfl, by kernel_rfl, kStruct (by kernel_rfl), fun h => by cases h⟩
theorem row107 : RowOk Try.prog 107 ⟨true, 11, [.int .u64 0, .int .u64 0, .int .u32 0, .int .u8 0, .int .u8 0, .int .u8 0, .int .u8 0, .raw .nilFunc, .ptr none, .int .i32 0, .int .i32 0], false, .struct [(0, 1, false), (1, 1, false), (2, 1, false), (3, 1, false), (4, 1, false), (5, 1, false), (6, 1, false), (7, 1, false), (8, 1, false), (9, 1, false), (10, 1, false)]⟩ :=
  ⟨by kernel_rfl, by kernel_rfl, by kernel_rfl, by kernel_rfl, kStruct (by kernel_rfl), fun h => by cases h⟩
theorem tysOk : TysOk Try.prog TT := tysOk_of (by
  unfold TT
  simp only [List.forall_mem_cons]
  exact ⟨row2, row3, row4, row5, row9, row22, row23, row24, row27, row29, row30, row31, row36, row44, row57, row59, row70, row72, row86, row90, row93, row94, row95, row99, row100, row101, row103, row104, row105, row106, row107, fun _ h => by cases h⟩)
theorem p_add64 (W0 : World) : PrimOk Try.prog W0 60 .add64 := primOk_add64 Try.func60 (by kernel_rfl) (by kernel_rfl) (by kernel_rfl) (by kernel_rfl)
theorem p_sub64 (W0 : World) : PrimOk Try.prog W0 76 .sub64 := primOk_sub64 Try.func76 (by kernel_rfl) (by kernel_rfl) (by kernel_rfl) (by kernel_rfl)
theorem g0Ok (W0 : World) : CfgOk (G0 W0) := ⟨tysOk, (fun f p h => by
  change prim0 f = some p at h
  unfold prim0 at h
  split at h
  · simp only [Option.some.injEq] at h; subst h; exact p_add64 W0
  · simp only [Option.some.injEq] at h; subst h; exact p_sub64 W0
  · cases h), by kernel_rfl⟩
theorem hhOk (hm : ∀ W0, PrimOk Try.prog W0 59 .mul64) (A : Hv.Base) (ord : Nat → Option (List Nat)) : Hv.CfgOk (HHo A ord) := ⟨tysOk, (fun f p h W0 => by
  change prim1 f = some p at h
  unfold prim1 at h
  split at h
  · simp only [Option.some.injEq] at h; subst h; exact p_add64 W0
  · simp only [Option.some.injEq] at h; subst h; exact p_sub64 W0
  · simp only [Option.some.injEq] at h; subst h; exact hm W0
  · cases h), by kernel_rfl⟩
theorem ggOk (hm : ∀ W0, PrimOk Try.prog W0 59 .mul64) (W0 : World) : CfgOk (GG W0) := ⟨tysOk, (fun f p h => by
  change prim1 f = some p at h
  unfold prim1 at h
  split at h
  · simp only [Option.some.injEq] at h; subst h; exact p_add64 W0
  · simp only [Option.some.injEq] at h; subst h; exact p_sub64 W0
  · simp only [Option.some.injEq] at h; subst h; exact hm W0
  · cases h), by kernel_rfl⟩
end Go.Ev
