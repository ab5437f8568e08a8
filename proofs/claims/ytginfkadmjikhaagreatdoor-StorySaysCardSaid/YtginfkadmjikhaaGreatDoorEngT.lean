/- EngT: the types of the program, as the abstract machine asks for them. Printed by types.py. -/
import Derived.Test.YtginfkadmjikhaaGreatDoorProg
import Derived.Test.YtginfkadmjikhaaGreatDoorX1
namespace Go.Proofs.YtginfkadmjikhaaGreatDoor.E
open Go.RowKit Go.Proofs
set_option maxRecDepth 100000
@[simp] theorem ti_2 : tiOf Tryz.prog 2 = some ⟨1, false, 8, [.at (.int .i64 0)]⟩ := by kernel_rfl
@[simp] theorem tk_2 : tkOf Tryz.prog 2 = .int .i64 := by kernel_rfl
@[simp] theorem ti_3 : tiOf Tryz.prog 3 = some ⟨1, false, 8, [.at (.int .i64 0)]⟩ := by kernel_rfl
@[simp] theorem tk_3 : tkOf Tryz.prog 3 = .int .i64 := by kernel_rfl
@[simp] theorem ti_4 : tiOf Tryz.prog 4 = some ⟨1, false, 1, [.at (.bool false)]⟩ := by kernel_rfl
@[simp] theorem tk_4 : tkOf Tryz.prog 4 = .bool := by kernel_rfl
@[simp] theorem ti_5 : tiOf Tryz.prog 5 = some ⟨1, false, 1, [.at (.int .u8 0)]⟩ := by kernel_rfl
@[simp] theorem tk_5 : tkOf Tryz.prog 5 = .int .u8 := by kernel_rfl
@[simp] theorem ti_9 : tiOf Tryz.prog 9 = some ⟨1, false, 16, [.at (.string ByteArray.empty)]⟩ := by kernel_rfl
@[simp] theorem tk_9 : tkOf Tryz.prog 9 = .string := by kernel_rfl
@[simp] theorem ti_20 : tiOf Tryz.prog 20 = some ⟨1, false, 16, [.at .nilIface]⟩ := by kernel_rfl
@[simp] theorem tk_20 : tkOf Tryz.prog 20 = .iface := by kernel_rfl
@[simp] theorem ti_21 : tiOf Tryz.prog 21 = some ⟨1, false, 4, [.at (.int .i32 0)]⟩ := by kernel_rfl
@[simp] theorem tk_21 : tkOf Tryz.prog 21 = .int .i32 := by kernel_rfl
@[simp] theorem ti_22 : tiOf Tryz.prog 22 = some ⟨1, false, 24, [.nl]⟩ := by kernel_rfl
@[simp] theorem tk_22 : tkOf Tryz.prog 22 = .slice 93 := by kernel_rfl
@[simp] theorem ti_23 : tiOf Tryz.prog 23 = some ⟨1, false, 24, [.nl]⟩ := by kernel_rfl
@[simp] theorem tk_23 : tkOf Tryz.prog 23 = .slice 3 := by kernel_rfl
@[simp] theorem ti_25 : tiOf Tryz.prog 25 = some ⟨3, true, 40, [.nl, .at (.int .i64 0), .at (.int .i64 0)]⟩ := by kernel_rfl
@[simp] theorem tk_25 : tkOf Tryz.prog 25 = .struct [(0, 1), (1, 1), (2, 1)] := by kernel_rfl
@[simp] theorem ti_27 : tiOf Tryz.prog 27 = some ⟨4, true, 64, [.nl, .nl, .at (.int .i64 0), .at (.int .i64 0)]⟩ := by kernel_rfl
@[simp] theorem tk_27 : tkOf Tryz.prog 27 = .struct [(0, 1), (1, 3)] := by kernel_rfl
@[simp] theorem ti_28 : tiOf Tryz.prog 28 = some ⟨1, false, 24, [.nl]⟩ := by kernel_rfl
@[simp] theorem tk_28 : tkOf Tryz.prog 28 = .slice 129 := by kernel_rfl
@[simp] theorem ti_30 : tiOf Tryz.prog 30 = some ⟨5, true, 88, [.nl, .nl, .at (.int .i64 0), .at (.int .i64 0), .nl]⟩ := by kernel_rfl
@[simp] theorem tk_30 : tkOf Tryz.prog 30 = .struct [(0, 4), (4, 1)] := by kernel_rfl
@[simp] theorem ti_31 : tiOf Tryz.prog 31 = some ⟨1, false, 24, [.nl]⟩ := by kernel_rfl
@[simp] theorem tk_31 : tkOf Tryz.prog 31 = .slice 5 := by kernel_rfl
@[simp] theorem ti_33 : tiOf Tryz.prog 33 = some ⟨2, true, 48, [.nl, .nl]⟩ := by kernel_rfl
@[simp] theorem tk_33 : tkOf Tryz.prog 33 = .struct [(0, 1), (1, 1)] := by kernel_rfl
@[simp] theorem ti_34 : tiOf Tryz.prog 34 = some ⟨1, false, 24, [.nl]⟩ := by kernel_rfl
@[simp] theorem tk_34 : tkOf Tryz.prog 34 = .slice 79 := by kernel_rfl
@[simp] theorem ti_35 : tiOf Tryz.prog 35 = some ⟨1, false, 24, [.nl]⟩ := by kernel_rfl
@[simp] theorem tk_35 : tkOf Tryz.prog 35 = .slice 107 := by kernel_rfl
@[simp] theorem ti_37 : tiOf Tryz.prog 37 = some ⟨10, true, 192, [.nl, .nl, .at (.int .i64 0), .at (.int .i64 0), .nl, .nl, .nl, .at (.bool false), .nl, .nl]⟩ := by kernel_rfl
@[simp] theorem tk_37 : tkOf Tryz.prog 37 = .struct [(0, 5), (5, 2), (7, 1), (8, 1), (9, 1)] := by kernel_rfl
@[simp] theorem ti_39 : tiOf Tryz.prog 39 = some ⟨5, true, 56, [.at (.int .i64 0), .at (.int .i64 0), .at (.int .i64 0), .at (.int .i64 0), .nl]⟩ := by kernel_rfl
@[simp] theorem tk_39 : tkOf Tryz.prog 39 = .struct [(0, 1), (1, 1), (2, 1), (3, 1), (4, 1)] := by kernel_rfl
@[simp] theorem ti_41 : tiOf Tryz.prog 41 = some ⟨8, true, 80, [.at (.int .i64 0), .at (.int .i64 0), .at (.int .i64 0), .at (.int .i64 0), .at (.int .i64 0), .at (.int .i64 0), .at (.int .i64 0), .nl]⟩ := by kernel_rfl
@[simp] theorem tk_41 : tkOf Tryz.prog 41 = .struct [(0, 1), (1, 1), (2, 1), (3, 5)] := by kernel_rfl
@[simp] theorem ti_42 : tiOf Tryz.prog 42 = some ⟨1, false, 8, [.at (.int .i64 0)]⟩ := by kernel_rfl
@[simp] theorem tk_42 : tkOf Tryz.prog 42 = .int .i64 := by kernel_rfl
@[simp] theorem ti_50 : tiOf Tryz.prog 50 = some ⟨1, false, 24, [.nl]⟩ := by kernel_rfl
@[simp] theorem tk_50 : tkOf Tryz.prog 50 = .slice 62 := by kernel_rfl
@[simp] theorem ti_53 : tiOf Tryz.prog 53 = some ⟨1, false, 24, [.nl]⟩ := by kernel_rfl
@[simp] theorem tk_53 : tkOf Tryz.prog 53 = .slice 66 := by kernel_rfl
@[simp] theorem ti_62 : tiOf Tryz.prog 62 = some ⟨7, true, 72, [.at (.int .i64 0), .at (.int .i64 0), .at (.int .i64 0), .at (.int .i64 0), .at (.int .i64 0), .at (.int .i64 0), .nl]⟩ := by kernel_rfl
@[simp] theorem tk_62 : tkOf Tryz.prog 62 = .struct [(0, 1), (1, 1), (2, 5)] := by kernel_rfl
@[simp] theorem ti_66 : tiOf Tryz.prog 66 = some ⟨3, true, 40, [.at (.int .i64 0), .at (.int .i64 0), .nl]⟩ := by kernel_rfl
@[simp] theorem tk_66 : tkOf Tryz.prog 66 = .struct [(0, 1), (1, 1), (2, 1)] := by kernel_rfl
@[simp] theorem ti_69 : tiOf Tryz.prog 69 = some ⟨1, false, 24, [.nl]⟩ := by kernel_rfl
@[simp] theorem tk_69 : tkOf Tryz.prog 69 = .slice 41 := by kernel_rfl
@[simp] theorem ti_70 : tiOf Tryz.prog 70 = some ⟨1, false, 24, [.nl]⟩ := by kernel_rfl
@[simp] theorem tk_70 : tkOf Tryz.prog 70 = .slice 42 := by kernel_rfl
@[simp] theorem ti_79 : tiOf Tryz.prog 79 = some ⟨8, true, 96, [.at (.int .i64 0), .at (.bool false), .at (.int .i64 0), .at (.int .i64 0), .at (.int .i64 0), .at (.int .i64 0), .nl, .nl]⟩ := by kernel_rfl
@[simp] theorem tk_79 : tkOf Tryz.prog 79 = .struct [(0, 1), (1, 1), (2, 5), (7, 1)] := by kernel_rfl
@[simp] theorem ti_91 : tiOf Tryz.prog 91 = some ⟨4, true, 4, [.at (.bool false), .at (.bool false), .at (.bool false), .at (.bool false)]⟩ := by kernel_rfl
@[simp] theorem tk_91 : tkOf Tryz.prog 91 = .array 4 4 := by kernel_rfl
@[simp] theorem ti_93 : tiOf Tryz.prog 93 = some ⟨2, true, 32, [.at (.int .i64 0), .nl]⟩ := by kernel_rfl
@[simp] theorem tk_93 : tkOf Tryz.prog 93 = .struct [(0, 1), (1, 1)] := by kernel_rfl
@[simp] theorem ti_105 : tiOf Tryz.prog 105 = some ⟨1, false, 8, [.at (.pointer none)]⟩ := by kernel_rfl
@[simp] theorem ti_107 : tiOf Tryz.prog 107 = some ⟨11, true, 120, [.at (.bool false), .at (.int .i64 0), .at (.int .i64 0), .at (.int .i64 0), .at (.int .i64 0), .at (.int .i64 0), .at (.int .i64 0), .nl, .at (.int .i64 0), .at (.int .i64 0), .nl]⟩ := by kernel_rfl
@[simp] theorem tk_107 : tkOf Tryz.prog 107 = .struct [(0, 1), (1, 1), (2, 1), (3, 5), (8, 3)] := by kernel_rfl
@[simp] theorem ti_129 : tiOf Tryz.prog 129 = some ⟨4, true, 48, [.at (.int .i64 0), .at (.int .i64 0), .at (.int .i64 0), .nl]⟩ := by kernel_rfl
@[simp] theorem tk_129 : tkOf Tryz.prog 129 = .struct [(0, 1), (1, 3)] := by kernel_rfl
@[simp] theorem ti_166 : tiOf Tryz.prog 166 = some ⟨1, false, 8, [.at (.pointer none)]⟩ := by kernel_rfl
@[simp] theorem ti_169 : tiOf Tryz.prog 169 = some ⟨1, false, 24, [.nl]⟩ := by kernel_rfl
@[simp] theorem tk_169 : tkOf Tryz.prog 169 = .slice 9 := by kernel_rfl
@[simp] theorem ti_174 : tiOf Tryz.prog 174 = some ⟨1, false, 24, [.nl]⟩ := by kernel_rfl
@[simp] theorem tk_174 : tkOf Tryz.prog 174 = .slice 31 := by kernel_rfl
@[simp] theorem ti_176 : tiOf Tryz.prog 176 = some ⟨1, false, 24, [.nl]⟩ := by kernel_rfl
@[simp] theorem tk_176 : tkOf Tryz.prog 176 = .slice 50 := by kernel_rfl
@[simp] theorem ti_188 : tiOf Tryz.prog 188 = some ⟨2, true, 24, [.at (.string ByteArray.empty), .at (.bool false)]⟩ := by kernel_rfl
@[simp] theorem tk_188 : tkOf Tryz.prog 188 = .struct [(0, 1), (1, 1)] := by kernel_rfl
@[simp] theorem ti_189 : tiOf Tryz.prog 189 = some ⟨1, false, 24, [.nl]⟩ := by kernel_rfl
@[simp] theorem tk_189 : tkOf Tryz.prog 189 = .slice 188 := by kernel_rfl
@[simp] theorem ti_215 : tiOf Tryz.prog 215 = some ⟨1, false, 24, [.nl]⟩ := by kernel_rfl
@[simp] theorem tk_215 : tkOf Tryz.prog 215 = .slice 23 := by kernel_rfl
@[simp] theorem ti_230 : tiOf Tryz.prog 230 = some ⟨1, false, 8, [.at (.pointer none)]⟩ := by kernel_rfl
@[simp] theorem ti_234 : tiOf Tryz.prog 234 = some ⟨1, false, 16, [.at .nilIface]⟩ := by kernel_rfl
@[simp] theorem tk_234 : tkOf Tryz.prog 234 = .iface := by kernel_rfl
@[simp] theorem ti_243 : tiOf Tryz.prog 243 = some ⟨1, false, 8, [.at (.pointer none)]⟩ := by kernel_rfl
@[simp] theorem ti_244 : tiOf Tryz.prog 244 = some ⟨3, true, 24, [.at (.pointer none), .at (.pointer none), .at (.pointer none)]⟩ := by kernel_rfl
@[simp] theorem tk_244 : tkOf Tryz.prog 244 = .array 3 243 := by kernel_rfl
@[simp] theorem ti_250 : tiOf Tryz.prog 250 = some ⟨1, false, 8, [.at (.pointer none)]⟩ := by kernel_rfl
@[simp] theorem ti_255 : tiOf Tryz.prog 255 = some ⟨1, false, 8, [.at (.int .u64 0)]⟩ := by kernel_rfl
@[simp] theorem tk_255 : tkOf Tryz.prog 255 = .int .u64 := by kernel_rfl
@[simp] theorem ti_258 : tiOf Tryz.prog 258 = some ⟨24, true, 24, [.at (.int .u8 0), .at (.int .u8 0), .at (.int .u8 0), .at (.int .u8 0), .at (.int .u8 0), .at (.int .u8 0), .at (.int .u8 0), .at (.int .u8 0), .at (.int .u8 0), .at (.int .u8 0), .at (.int .u8 0), .at (.int .u8 0), .at (.int .u8 0), .at (.int .u8 0), .at (.int .u8 0), .at (.int .u8 0), .at (.int .u8 0), .at (.int .u8 0), .at (.int .u8 0), .at (.int .u8 0), .at (.int .u8 0), .at (.int .u8 0), .at (.int .u8 0), .at (.int .u8 0)]⟩ := by kernel_rfl
@[simp] theorem tk_258 : tkOf Tryz.prog 258 = .array 24 5 := by kernel_rfl
@[simp] theorem ti_259 : tiOf Tryz.prog 259 = some ⟨1, false, 8, [.at (.int .u64 0)]⟩ := by kernel_rfl
@[simp] theorem tk_259 : tkOf Tryz.prog 259 = .int .u64 := by kernel_rfl
@[simp] theorem ti_269 : tiOf Tryz.prog 269 = some ⟨1, false, 4, [.at (.int .u32 0)]⟩ := by kernel_rfl
@[simp] theorem tk_269 : tkOf Tryz.prog 269 = .int .u32 := by kernel_rfl
@[simp] theorem ti_272 : tiOf Tryz.prog 272 = some ⟨1, false, 8, [.at (.int .i64 0)]⟩ := by kernel_rfl
@[simp] theorem tk_272 : tkOf Tryz.prog 272 = .int .i64 := by kernel_rfl
@[simp] theorem ti_275 : tiOf Tryz.prog 275 = some ⟨1, false, 8, [.at (.pointer none)]⟩ := by kernel_rfl
@[simp] theorem ti_278 : tiOf Tryz.prog 278 = some ⟨3, true, 24, [.at (.int .i64 0), .at (.int .i64 0), .at (.int .i64 0)]⟩ := by kernel_rfl
@[simp] theorem tk_278 : tkOf Tryz.prog 278 = .array 3 3 := by kernel_rfl
@[simp] theorem ti_280 : tiOf Tryz.prog 280 = some ⟨20, true, 160, [.at (.int .u64 0), .at (.int .u64 0), .at (.int .u64 0), .at (.int .u64 0), .at (.int .u64 0), .at (.int .u64 0), .at (.int .u64 0), .at (.int .u64 0), .at (.int .u64 0), .at (.int .u64 0), .at (.int .u64 0), .at (.int .u64 0), .at (.int .u64 0), .at (.int .u64 0), .at (.int .u64 0), .at (.int .u64 0), .at (.int .u64 0), .at (.int .u64 0), .at (.int .u64 0), .at (.int .u64 0)]⟩ := by kernel_rfl
@[simp] theorem tk_280 : tkOf Tryz.prog 280 = .array 20 259 := by kernel_rfl
@[simp] theorem ti_287 : tiOf Tryz.prog 287 = some ⟨2, true, 2, [.at (.int .u8 0), .at (.int .u8 0)]⟩ := by kernel_rfl
@[simp] theorem tk_287 : tkOf Tryz.prog 287 = .struct [(0, 1), (1, 1)] := by kernel_rfl
@[simp] theorem tk_288 : tkOf Tryz.prog 288 = .array 16 287 := by kernel_rfl
@[simp] theorem ti_293 : tiOf Tryz.prog 293 = some ⟨3, true, 48, [.at (.string ByteArray.empty), .at (.string ByteArray.empty), .at .nilIface]⟩ := by kernel_rfl
@[simp] theorem tk_293 : tkOf Tryz.prog 293 = .struct [(0, 1), (1, 1), (2, 1)] := by kernel_rfl
@[simp] theorem ti_296 : tiOf Tryz.prog 296 = some ⟨1, false, 8, [.at (.pointer none)]⟩ := by kernel_rfl
@[simp] theorem ti_297 : tiOf Tryz.prog 297 = some ⟨1, false, 8, [.at (.pointer none)]⟩ := by kernel_rfl
@[simp] theorem ti_299 : tiOf Tryz.prog 299 = some ⟨1, true, 16, [.at (.string ByteArray.empty)]⟩ := by kernel_rfl
@[simp] theorem tk_299 : tkOf Tryz.prog 299 = .struct [(0, 1)] := by kernel_rfl
@[simp] theorem tk_300 : tkOf Tryz.prog 300 = .array 32 5 := by kernel_rfl
@[simp] theorem tk_301 : tkOf Tryz.prog 301 = .array 64 5 := by kernel_rfl
end Go.Proofs.YtginfkadmjikhaaGreatDoor.E
