/- EngT: the types of the program, as the abstract machine asks for them. Printed by types.py. -/
import Derived.Test.YtadmfokicjjglaaGreatDoorProg
import Derived.Test.YtadmfokicjjglaaGreatDoorX1
namespace Go.Proofs.YtadmfokicjjglaaGreatDoor.E
open Go.RowKit Go.Proofs
set_option maxRecDepth 100000
@[simp] theorem ti_2 : tiOf Tryz.prog 2 = some ⟨1, false, 8, [.at (.int .i64 0)]⟩ := by kernel_rfl
@[simp] theorem tk_2 : tkOf Tryz.prog 2 = .int .i64 := by kernel_rfl
@[simp] theorem ti_3 : tiOf Tryz.prog 3 = some ⟨1, false, 8, [.at (.int .i64 0)]⟩ := by kernel_rfl
@[simp] theorem tk_3 : tkOf Tryz.prog 3 = .int .i64 := by kernel_rfl
@[simp] theorem ti_4 : tiOf Tryz.prog 4 = some ⟨1, false, 1, [.at (.bool false)]⟩ := by kernel_rfl
@[simp] theorem tk_4 : tkOf Tryz.prog 4 = .bool := by kernel_rfl
@[simp] theorem ti_5 : tiOf Tryz.prog 5 = some ⟨1, false, 1, [.at (.int .u8 0)]⟩ := by kernel_rfl
@[simp] theorem tk_5 : tkOf Tryz.prog 5 = .int .u8 := by kernel_rfl
@[simp] theorem ti_9 : tiOf Tryz.prog 9 = some ⟨1, false, 16, [.at (.string ByteArray.empty)]⟩ := by kernel_rfl
@[simp] theorem tk_9 : tkOf Tryz.prog 9 = .string := by kernel_rfl
@[simp] theorem ti_20 : tiOf Tryz.prog 20 = some ⟨1, false, 16, [.at .nilIface]⟩ := by kernel_rfl
@[simp] theorem tk_20 : tkOf Tryz.prog 20 = .iface := by kernel_rfl
@[simp] theorem ti_21 : tiOf Tryz.prog 21 = some ⟨1, false, 4, [.at (.int .i32 0)]⟩ := by kernel_rfl
@[simp] theorem tk_21 : tkOf Tryz.prog 21 = .int .i32 := by kernel_rfl
@[simp] theorem ti_22 : tiOf Tryz.prog 22 = some ⟨1, false, 24, [.nl]⟩ := by kernel_rfl
@[simp] theorem tk_22 : tkOf Tryz.prog 22 = .slice 91 := by kernel_rfl
@[simp] theorem ti_23 : tiOf Tryz.prog 23 = some ⟨1, false, 24, [.nl]⟩ := by kernel_rfl
@[simp] theorem tk_23 : tkOf Tryz.prog 23 = .slice 3 := by kernel_rfl
@[simp] theorem ti_25 : tiOf Tryz.prog 25 = some ⟨3, true, 40, [.nl, .at (.int .i64 0), .at (.int .i64 0)]⟩ := by kernel_rfl
@[simp] theorem tk_25 : tkOf Tryz.prog 25 = .struct [(0, 1), (1, 1), (2, 1)] := by kernel_rfl
@[simp] theorem ti_27 : tiOf Tryz.prog 27 = some ⟨4, true, 64, [.nl, .nl, .at (.int .i64 0), .at (.int .i64 0)]⟩ := by kernel_rfl
@[simp] theorem tk_27 : tkOf Tryz.prog 27 = .struct [(0, 1), (1, 3)] := by kernel_rfl
@[simp] theorem ti_28 : tiOf Tryz.prog 28 = some ⟨1, false, 24, [.nl]⟩ := by kernel_rfl
@[simp] theorem tk_28 : tkOf Tryz.prog 28 = .slice 111 := by kernel_rfl
@[simp] theorem ti_30 : tiOf Tryz.prog 30 = some ⟨5, true, 88, [.nl, .nl, .at (.int .i64 0), .at (.int .i64 0), .nl]⟩ := by kernel_rfl
@[simp] theorem tk_30 : tkOf Tryz.prog 30 = .struct [(0, 4), (4, 1)] := by kernel_rfl
@[simp] theorem ti_31 : tiOf Tryz.prog 31 = some ⟨1, false, 24, [.nl]⟩ := by kernel_rfl
@[simp] theorem tk_31 : tkOf Tryz.prog 31 = .slice 5 := by kernel_rfl
@[simp] theorem ti_33 : tiOf Tryz.prog 33 = some ⟨2, true, 48, [.nl, .nl]⟩ := by kernel_rfl
@[simp] theorem tk_33 : tkOf Tryz.prog 33 = .struct [(0, 1), (1, 1)] := by kernel_rfl
@[simp] theorem ti_34 : tiOf Tryz.prog 34 = some ⟨1, false, 24, [.nl]⟩ := by kernel_rfl
@[simp] theorem tk_34 : tkOf Tryz.prog 34 = .slice 85 := by kernel_rfl
@[simp] theorem ti_35 : tiOf Tryz.prog 35 = some ⟨1, false, 24, [.nl]⟩ := by kernel_rfl
@[simp] theorem tk_35 : tkOf Tryz.prog 35 = .slice 78 := by kernel_rfl
@[simp] theorem ti_37 : tiOf Tryz.prog 37 = some ⟨10, true, 192, [.nl, .nl, .at (.int .i64 0), .at (.int .i64 0), .nl, .nl, .nl, .at (.bool false), .nl, .nl]⟩ := by kernel_rfl
@[simp] theorem tk_37 : tkOf Tryz.prog 37 = .struct [(0, 5), (5, 2), (7, 1), (8, 1), (9, 1)] := by kernel_rfl
@[simp] theorem ti_39 : tiOf Tryz.prog 39 = some ⟨5, true, 56, [.at (.int .i64 0), .at (.int .i64 0), .at (.int .i64 0), .at (.int .i64 0), .nl]⟩ := by kernel_rfl
@[simp] theorem tk_39 : tkOf Tryz.prog 39 = .struct [(0, 1), (1, 1), (2, 1), (3, 1), (4, 1)] := by kernel_rfl
@[simp] theorem ti_41 : tiOf Tryz.prog 41 = some ⟨8, true, 80, [.at (.int .i64 0), .at (.int .i64 0), .at (.int .i64 0), .at (.int .i64 0), .at (.int .i64 0), .at (.int .i64 0), .at (.int .i64 0), .nl]⟩ := by kernel_rfl
@[simp] theorem tk_41 : tkOf Tryz.prog 41 = .struct [(0, 1), (1, 1), (2, 1), (3, 5)] := by kernel_rfl
@[simp] theorem ti_42 : tiOf Tryz.prog 42 = some ⟨1, false, 8, [.at (.int .i64 0)]⟩ := by kernel_rfl
@[simp] theorem tk_42 : tkOf Tryz.prog 42 = .int .i64 := by kernel_rfl
@[simp] theorem ti_51 : tiOf Tryz.prog 51 = some ⟨7, true, 72, [.at (.int .i64 0), .at (.int .i64 0), .at (.int .i64 0), .at (.int .i64 0), .at (.int .i64 0), .at (.int .i64 0), .nl]⟩ := by kernel_rfl
@[simp] theorem tk_51 : tkOf Tryz.prog 51 = .struct [(0, 1), (1, 1), (2, 5)] := by kernel_rfl
@[simp] theorem ti_56 : tiOf Tryz.prog 56 = some ⟨1, false, 24, [.nl]⟩ := by kernel_rfl
@[simp] theorem tk_56 : tkOf Tryz.prog 56 = .slice 51 := by kernel_rfl
@[simp] theorem ti_66 : tiOf Tryz.prog 66 = some ⟨1, false, 24, [.nl]⟩ := by kernel_rfl
@[simp] theorem tk_66 : tkOf Tryz.prog 66 = .slice 41 := by kernel_rfl
@[simp] theorem ti_67 : tiOf Tryz.prog 67 = some ⟨1, false, 24, [.nl]⟩ := by kernel_rfl
@[simp] theorem tk_67 : tkOf Tryz.prog 67 = .slice 42 := by kernel_rfl
@[simp] theorem ti_74 : tiOf Tryz.prog 74 = some ⟨1, false, 8, [.at (.pointer none)]⟩ := by kernel_rfl
@[simp] theorem ti_76 : tiOf Tryz.prog 76 = some ⟨3, true, 40, [.at (.int .i64 0), .at (.int .i64 0), .nl]⟩ := by kernel_rfl
@[simp] theorem tk_76 : tkOf Tryz.prog 76 = .struct [(0, 1), (1, 1), (2, 1)] := by kernel_rfl
@[simp] theorem ti_78 : tiOf Tryz.prog 78 = some ⟨11, true, 120, [.at (.bool false), .at (.int .i64 0), .at (.int .i64 0), .at (.int .i64 0), .at (.int .i64 0), .at (.int .i64 0), .at (.int .i64 0), .nl, .at (.int .i64 0), .at (.int .i64 0), .nl]⟩ := by kernel_rfl
@[simp] theorem tk_78 : tkOf Tryz.prog 78 = .struct [(0, 1), (1, 1), (2, 1), (3, 5), (8, 3)] := by kernel_rfl
@[simp] theorem ti_80 : tiOf Tryz.prog 80 = some ⟨1, false, 24, [.nl]⟩ := by kernel_rfl
@[simp] theorem tk_80 : tkOf Tryz.prog 80 = .slice 76 := by kernel_rfl
@[simp] theorem ti_85 : tiOf Tryz.prog 85 = some ⟨8, true, 96, [.at (.int .i64 0), .at (.bool false), .at (.int .i64 0), .at (.int .i64 0), .at (.int .i64 0), .at (.int .i64 0), .nl, .nl]⟩ := by kernel_rfl
@[simp] theorem tk_85 : tkOf Tryz.prog 85 = .struct [(0, 1), (1, 1), (2, 5), (7, 1)] := by kernel_rfl
@[simp] theorem ti_91 : tiOf Tryz.prog 91 = some ⟨2, true, 32, [.at (.int .i64 0), .nl]⟩ := by kernel_rfl
@[simp] theorem tk_91 : tkOf Tryz.prog 91 = .struct [(0, 1), (1, 1)] := by kernel_rfl
@[simp] theorem ti_111 : tiOf Tryz.prog 111 = some ⟨4, true, 48, [.at (.int .i64 0), .at (.int .i64 0), .at (.int .i64 0), .nl]⟩ := by kernel_rfl
@[simp] theorem tk_111 : tkOf Tryz.prog 111 = .struct [(0, 1), (1, 3)] := by kernel_rfl
@[simp] theorem ti_136 : tiOf Tryz.prog 136 = some ⟨1, false, 24, [.nl]⟩ := by kernel_rfl
@[simp] theorem tk_136 : tkOf Tryz.prog 136 = .slice 35 := by kernel_rfl
@[simp] theorem ti_144 : tiOf Tryz.prog 144 = some ⟨1, false, 24, [.nl]⟩ := by kernel_rfl
@[simp] theorem tk_144 : tkOf Tryz.prog 144 = .slice 31 := by kernel_rfl
@[simp] theorem ti_150 : tiOf Tryz.prog 150 = some ⟨1, false, 24, [.nl]⟩ := by kernel_rfl
@[simp] theorem tk_150 : tkOf Tryz.prog 150 = .slice 9 := by kernel_rfl
@[simp] theorem ti_154 : tiOf Tryz.prog 154 = some ⟨1, false, 24, [.nl]⟩ := by kernel_rfl
@[simp] theorem tk_154 : tkOf Tryz.prog 154 = .slice 56 := by kernel_rfl
@[simp] theorem ti_161 : tiOf Tryz.prog 161 = some ⟨2, true, 24, [.at (.string ByteArray.empty), .at (.bool false)]⟩ := by kernel_rfl
@[simp] theorem tk_161 : tkOf Tryz.prog 161 = .struct [(0, 1), (1, 1)] := by kernel_rfl
@[simp] theorem ti_162 : tiOf Tryz.prog 162 = some ⟨1, false, 24, [.nl]⟩ := by kernel_rfl
@[simp] theorem tk_162 : tkOf Tryz.prog 162 = .slice 161 := by kernel_rfl
@[simp] theorem ti_166 : tiOf Tryz.prog 166 = some ⟨1, false, 8, [.at (.pointer none)]⟩ := by kernel_rfl
@[simp] theorem ti_169 : tiOf Tryz.prog 169 = some ⟨4, true, 4, [.at (.bool false), .at (.bool false), .at (.bool false), .at (.bool false)]⟩ := by kernel_rfl
@[simp] theorem tk_169 : tkOf Tryz.prog 169 = .array 4 4 := by kernel_rfl
@[simp] theorem ti_182 : tiOf Tryz.prog 182 = some ⟨3, true, 24, [.at (.int .i64 0), .at (.int .i64 0), .at (.int .i64 0)]⟩ := by kernel_rfl
@[simp] theorem tk_182 : tkOf Tryz.prog 182 = .array 3 3 := by kernel_rfl
@[simp] theorem ti_202 : tiOf Tryz.prog 202 = some ⟨1, false, 24, [.nl]⟩ := by kernel_rfl
@[simp] theorem tk_202 : tkOf Tryz.prog 202 = .slice 23 := by kernel_rfl
@[simp] theorem ti_217 : tiOf Tryz.prog 217 = some ⟨1, false, 16, [.at .nilIface]⟩ := by kernel_rfl
@[simp] theorem tk_217 : tkOf Tryz.prog 217 = .iface := by kernel_rfl
@[simp] theorem ti_221 : tiOf Tryz.prog 221 = some ⟨1, false, 8, [.at (.pointer none)]⟩ := by kernel_rfl
@[simp] theorem ti_222 : tiOf Tryz.prog 222 = some ⟨3, true, 24, [.at (.pointer none), .at (.pointer none), .at (.pointer none)]⟩ := by kernel_rfl
@[simp] theorem tk_222 : tkOf Tryz.prog 222 = .array 3 221 := by kernel_rfl
@[simp] theorem ti_229 : tiOf Tryz.prog 229 = some ⟨1, false, 8, [.at (.pointer none)]⟩ := by kernel_rfl
@[simp] theorem ti_233 : tiOf Tryz.prog 233 = some ⟨24, true, 24, [.at (.int .u8 0), .at (.int .u8 0), .at (.int .u8 0), .at (.int .u8 0), .at (.int .u8 0), .at (.int .u8 0), .at (.int .u8 0), .at (.int .u8 0), .at (.int .u8 0), .at (.int .u8 0), .at (.int .u8 0), .at (.int .u8 0), .at (.int .u8 0), .at (.int .u8 0), .at (.int .u8 0), .at (.int .u8 0), .at (.int .u8 0), .at (.int .u8 0), .at (.int .u8 0), .at (.int .u8 0), .at (.int .u8 0), .at (.int .u8 0), .at (.int .u8 0), .at (.int .u8 0)]⟩ := by kernel_rfl
@[simp] theorem tk_233 : tkOf Tryz.prog 233 = .array 24 5 := by kernel_rfl
@[simp] theorem ti_234 : tiOf Tryz.prog 234 = some ⟨1, false, 8, [.at (.int .u64 0)]⟩ := by kernel_rfl
@[simp] theorem tk_234 : tkOf Tryz.prog 234 = .int .u64 := by kernel_rfl
@[simp] theorem ti_240 : tiOf Tryz.prog 240 = some ⟨1, false, 8, [.at (.int .u64 0)]⟩ := by kernel_rfl
@[simp] theorem tk_240 : tkOf Tryz.prog 240 = .int .u64 := by kernel_rfl
@[simp] theorem ti_248 : tiOf Tryz.prog 248 = some ⟨1, false, 8, [.at (.pointer none)]⟩ := by kernel_rfl
@[simp] theorem ti_250 : tiOf Tryz.prog 250 = some ⟨20, true, 160, [.at (.int .u64 0), .at (.int .u64 0), .at (.int .u64 0), .at (.int .u64 0), .at (.int .u64 0), .at (.int .u64 0), .at (.int .u64 0), .at (.int .u64 0), .at (.int .u64 0), .at (.int .u64 0), .at (.int .u64 0), .at (.int .u64 0), .at (.int .u64 0), .at (.int .u64 0), .at (.int .u64 0), .at (.int .u64 0), .at (.int .u64 0), .at (.int .u64 0), .at (.int .u64 0), .at (.int .u64 0)]⟩ := by kernel_rfl
@[simp] theorem tk_250 : tkOf Tryz.prog 250 = .array 20 234 := by kernel_rfl
@[simp] theorem ti_251 : tiOf Tryz.prog 251 = some ⟨1, false, 4, [.at (.int .u32 0)]⟩ := by kernel_rfl
@[simp] theorem tk_251 : tkOf Tryz.prog 251 = .int .u32 := by kernel_rfl
@[simp] theorem ti_257 : tiOf Tryz.prog 257 = some ⟨1, false, 8, [.at (.int .i64 0)]⟩ := by kernel_rfl
@[simp] theorem tk_257 : tkOf Tryz.prog 257 = .int .i64 := by kernel_rfl
@[simp] theorem ti_258 : tiOf Tryz.prog 258 = some ⟨1, false, 8, [.at (.pointer none)]⟩ := by kernel_rfl
@[simp] theorem ti_270 : tiOf Tryz.prog 270 = some ⟨3, true, 48, [.at (.string ByteArray.empty), .at (.string ByteArray.empty), .at .nilIface]⟩ := by kernel_rfl
@[simp] theorem tk_270 : tkOf Tryz.prog 270 = .struct [(0, 1), (1, 1), (2, 1)] := by kernel_rfl
@[simp] theorem ti_274 : tiOf Tryz.prog 274 = some ⟨2, true, 2, [.at (.int .u8 0), .at (.int .u8 0)]⟩ := by kernel_rfl
@[simp] theorem tk_274 : tkOf Tryz.prog 274 = .struct [(0, 1), (1, 1)] := by kernel_rfl
@[simp] theorem tk_275 : tkOf Tryz.prog 275 = .array 16 274 := by kernel_rfl
@[simp] theorem tk_280 : tkOf Tryz.prog 280 = .array 32 5 := by kernel_rfl
@[simp] theorem tk_281 : tkOf Tryz.prog 281 = .array 64 5 := by kernel_rfl
@[simp] theorem ti_282 : tiOf Tryz.prog 282 = some ⟨1, false, 8, [.at (.pointer none)]⟩ := by kernel_rfl
@[simp] theorem ti_283 : tiOf Tryz.prog 283 = some ⟨1, false, 8, [.at (.pointer none)]⟩ := by kernel_rfl
@[simp] theorem ti_285 : tiOf Tryz.prog 285 = some ⟨1, true, 16, [.at (.string ByteArray.empty)]⟩ := by kernel_rfl
@[simp] theorem tk_285 : tkOf Tryz.prog 285 = .struct [(0, 1)] := by kernel_rfl
end Go.Proofs.YtadmfokicjjglaaGreatDoor.E
