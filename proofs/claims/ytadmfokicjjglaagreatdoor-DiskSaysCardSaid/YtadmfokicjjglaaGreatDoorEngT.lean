/- EngT: the types of the program, as the abstract machine asks for them. Printed by types.py. -/
import Derived.Test.YtadmfokicjjglaaGreatDoorProg
import Derived.Test.YtadmfokicjjglaaGreatDoorX1
namespace Go.Proofs.YtadmfokicjjglaaGreatDoor.E
open Go.RowKit Go.Proofs
set_option maxRecDepth 100000
@[simp] theorem ti_1 : tiOf Tryz.prog 1 = some ⟨1, false, 8, [.at .nilFunc]⟩ := by kernel_rfl
@[simp] theorem ti_2 : tiOf Tryz.prog 2 = some ⟨1, false, 8, [.at (.int .i64 0)]⟩ := by kernel_rfl
@[simp] theorem tk_2 : tkOf Tryz.prog 2 = .int .i64 := by kernel_rfl
@[simp] theorem ti_3 : tiOf Tryz.prog 3 = some ⟨1, false, 8, [.at (.int .i64 0)]⟩ := by kernel_rfl
@[simp] theorem tk_3 : tkOf Tryz.prog 3 = .int .i64 := by kernel_rfl
@[simp] theorem ti_4 : tiOf Tryz.prog 4 = some ⟨1, false, 1, [.at (.bool false)]⟩ := by kernel_rfl
@[simp] theorem tk_4 : tkOf Tryz.prog 4 = .bool := by kernel_rfl
@[simp] theorem ti_5 : tiOf Tryz.prog 5 = some ⟨1, false, 1, [.at (.int .u8 0)]⟩ := by kernel_rfl
@[simp] theorem tk_5 : tkOf Tryz.prog 5 = .int .u8 := by kernel_rfl
@[simp] theorem ti_6 : tiOf Tryz.prog 6 = some ⟨1, false, 1, [.at (.int .u8 0)]⟩ := by kernel_rfl
@[simp] theorem tk_6 : tkOf Tryz.prog 6 = .int .u8 := by kernel_rfl
@[simp] theorem ti_7 : tiOf Tryz.prog 7 = some ⟨4, true, 24, [.at (.int .i64 0), .at (.int .i64 0), .at (.bool false), .at (.int .u8 0)]⟩ := by kernel_rfl
@[simp] theorem tk_7 : tkOf Tryz.prog 7 = .struct [(0, 1), (1, 1), (2, 1), (3, 1)] := by kernel_rfl
@[simp] theorem ti_8 : tiOf Tryz.prog 8 = some ⟨4, true, 24, [.at (.int .i64 0), .at (.int .i64 0), .at (.bool false), .at (.int .u8 0)]⟩ := by kernel_rfl
@[simp] theorem tk_8 : tkOf Tryz.prog 8 = .struct [(0, 1), (1, 1), (2, 1), (3, 1)] := by kernel_rfl
@[simp] theorem ti_9 : tiOf Tryz.prog 9 = some ⟨1, false, 16, [.at (.string ByteArray.empty)]⟩ := by kernel_rfl
@[simp] theorem tk_9 : tkOf Tryz.prog 9 = .string := by kernel_rfl
@[simp] theorem ti_10 : tiOf Tryz.prog 10 = some ⟨1, false, 16, [.at (.string ByteArray.empty)]⟩ := by kernel_rfl
@[simp] theorem tk_10 : tkOf Tryz.prog 10 = .string := by kernel_rfl
@[simp] theorem ti_11 : tiOf Tryz.prog 11 = some ⟨1, false, 16, [.at (.string ByteArray.empty)]⟩ := by kernel_rfl
@[simp] theorem tk_11 : tkOf Tryz.prog 11 = .string := by kernel_rfl
@[simp] theorem ti_12 : tiOf Tryz.prog 12 = some ⟨1, false, 8, [.at (.int .u64 0)]⟩ := by kernel_rfl
@[simp] theorem tk_12 : tkOf Tryz.prog 12 = .int .u64 := by kernel_rfl
@[simp] theorem ti_13 : tiOf Tryz.prog 13 = some ⟨2, true, 24, [.at (.string ByteArray.empty), .at (.int .u64 0)]⟩ := by kernel_rfl
@[simp] theorem tk_13 : tkOf Tryz.prog 13 = .struct [(0, 1), (1, 1)] := by kernel_rfl
@[simp] theorem ti_14 : tiOf Tryz.prog 14 = some ⟨2, true, 24, [.at (.string ByteArray.empty), .at (.int .u64 0)]⟩ := by kernel_rfl
@[simp] theorem tk_14 : tkOf Tryz.prog 14 = .struct [(0, 1), (1, 1)] := by kernel_rfl
@[simp] theorem ti_15 : tiOf Tryz.prog 15 = some ⟨1, false, 8, [.at (.pointer none)]⟩ := by kernel_rfl
@[simp] theorem ti_16 : tiOf Tryz.prog 16 = some ⟨1, false, 8, [.at (.pointer none)]⟩ := by kernel_rfl
@[simp] theorem ti_17 : tiOf Tryz.prog 17 = some ⟨1, false, 8, [.at (.pointer none)]⟩ := by kernel_rfl
@[simp] theorem ti_18 : tiOf Tryz.prog 18 = some ⟨1, true, 8, [.at (.pointer none)]⟩ := by kernel_rfl
@[simp] theorem tk_18 : tkOf Tryz.prog 18 = .struct [(0, 1)] := by kernel_rfl
@[simp] theorem ti_19 : tiOf Tryz.prog 19 = some ⟨1, true, 8, [.at (.pointer none)]⟩ := by kernel_rfl
@[simp] theorem tk_19 : tkOf Tryz.prog 19 = .struct [(0, 1)] := by kernel_rfl
@[simp] theorem ti_20 : tiOf Tryz.prog 20 = some ⟨1, false, 16, [.at .nilIface]⟩ := by kernel_rfl
@[simp] theorem tk_20 : tkOf Tryz.prog 20 = .iface := by kernel_rfl
@[simp] theorem ti_21 : tiOf Tryz.prog 21 = some ⟨1, false, 4, [.at (.int .i32 0)]⟩ := by kernel_rfl
@[simp] theorem tk_21 : tkOf Tryz.prog 21 = .int .i32 := by kernel_rfl
@[simp] theorem ti_22 : tiOf Tryz.prog 22 = some ⟨1, false, 24, [.nl]⟩ := by kernel_rfl
@[simp] theorem tk_22 : tkOf Tryz.prog 22 = .slice 91 := by kernel_rfl
@[simp] theorem ti_23 : tiOf Tryz.prog 23 = some ⟨1, false, 24, [.nl]⟩ := by kernel_rfl
@[simp] theorem tk_23 : tkOf Tryz.prog 23 = .slice 3 := by kernel_rfl
@[simp] theorem ti_24 : tiOf Tryz.prog 24 = some ⟨3, true, 40, [.nl, .at (.int .i64 0), .at (.int .i64 0)]⟩ := by kernel_rfl
@[simp] theorem tk_24 : tkOf Tryz.prog 24 = .struct [(0, 1), (1, 1), (2, 1)] := by kernel_rfl
@[simp] theorem ti_25 : tiOf Tryz.prog 25 = some ⟨3, true, 40, [.nl, .at (.int .i64 0), .at (.int .i64 0)]⟩ := by kernel_rfl
@[simp] theorem tk_25 : tkOf Tryz.prog 25 = .struct [(0, 1), (1, 1), (2, 1)] := by kernel_rfl
@[simp] theorem ti_26 : tiOf Tryz.prog 26 = some ⟨4, true, 64, [.nl, .nl, .at (.int .i64 0), .at (.int .i64 0)]⟩ := by kernel_rfl
@[simp] theorem tk_26 : tkOf Tryz.prog 26 = .struct [(0, 1), (1, 3)] := by kernel_rfl
@[simp] theorem ti_27 : tiOf Tryz.prog 27 = some ⟨4, true, 64, [.nl, .nl, .at (.int .i64 0), .at (.int .i64 0)]⟩ := by kernel_rfl
@[simp] theorem tk_27 : tkOf Tryz.prog 27 = .struct [(0, 1), (1, 3)] := by kernel_rfl
@[simp] theorem ti_28 : tiOf Tryz.prog 28 = some ⟨1, false, 24, [.nl]⟩ := by kernel_rfl
@[simp] theorem tk_28 : tkOf Tryz.prog 28 = .slice 111 := by kernel_rfl
@[simp] theorem ti_29 : tiOf Tryz.prog 29 = some ⟨5, true, 88, [.nl, .nl, .at (.int .i64 0), .at (.int .i64 0), .nl]⟩ := by kernel_rfl
@[simp] theorem tk_29 : tkOf Tryz.prog 29 = .struct [(0, 4), (4, 1)] := by kernel_rfl
@[simp] theorem ti_30 : tiOf Tryz.prog 30 = some ⟨5, true, 88, [.nl, .nl, .at (.int .i64 0), .at (.int .i64 0), .nl]⟩ := by kernel_rfl
@[simp] theorem tk_30 : tkOf Tryz.prog 30 = .struct [(0, 4), (4, 1)] := by kernel_rfl
@[simp] theorem ti_31 : tiOf Tryz.prog 31 = some ⟨1, false, 24, [.nl]⟩ := by kernel_rfl
@[simp] theorem tk_31 : tkOf Tryz.prog 31 = .slice 5 := by kernel_rfl
@[simp] theorem ti_32 : tiOf Tryz.prog 32 = some ⟨2, true, 48, [.nl, .nl]⟩ := by kernel_rfl
@[simp] theorem tk_32 : tkOf Tryz.prog 32 = .struct [(0, 1), (1, 1)] := by kernel_rfl
@[simp] theorem ti_33 : tiOf Tryz.prog 33 = some ⟨2, true, 48, [.nl, .nl]⟩ := by kernel_rfl
@[simp] theorem tk_33 : tkOf Tryz.prog 33 = .struct [(0, 1), (1, 1)] := by kernel_rfl
@[simp] theorem ti_34 : tiOf Tryz.prog 34 = some ⟨1, false, 24, [.nl]⟩ := by kernel_rfl
@[simp] theorem tk_34 : tkOf Tryz.prog 34 = .slice 85 := by kernel_rfl
@[simp] theorem ti_35 : tiOf Tryz.prog 35 = some ⟨1, false, 24, [.nl]⟩ := by kernel_rfl
@[simp] theorem tk_35 : tkOf Tryz.prog 35 = .slice 78 := by kernel_rfl
@[simp] theorem ti_36 : tiOf Tryz.prog 36 = some ⟨10, true, 192, [.nl, .nl, .at (.int .i64 0), .at (.int .i64 0), .nl, .nl, .nl, .at (.bool false), .nl, .nl]⟩ := by kernel_rfl
@[simp] theorem tk_36 : tkOf Tryz.prog 36 = .struct [(0, 5), (5, 2), (7, 1), (8, 1), (9, 1)] := by kernel_rfl
@[simp] theorem ti_37 : tiOf Tryz.prog 37 = some ⟨10, true, 192, [.nl, .nl, .at (.int .i64 0), .at (.int .i64 0), .nl, .nl, .nl, .at (.bool false), .nl, .nl]⟩ := by kernel_rfl
@[simp] theorem tk_37 : tkOf Tryz.prog 37 = .struct [(0, 5), (5, 2), (7, 1), (8, 1), (9, 1)] := by kernel_rfl
@[simp] theorem ti_38 : tiOf Tryz.prog 38 = some ⟨5, true, 56, [.at (.int .i64 0), .at (.int .i64 0), .at (.int .i64 0), .at (.int .i64 0), .nl]⟩ := by kernel_rfl
@[simp] theorem tk_38 : tkOf Tryz.prog 38 = .struct [(0, 1), (1, 1), (2, 1), (3, 1), (4, 1)] := by kernel_rfl
@[simp] theorem ti_39 : tiOf Tryz.prog 39 = some ⟨5, true, 56, [.at (.int .i64 0), .at (.int .i64 0), .at (.int .i64 0), .at (.int .i64 0), .nl]⟩ := by kernel_rfl
@[simp] theorem tk_39 : tkOf Tryz.prog 39 = .struct [(0, 1), (1, 1), (2, 1), (3, 1), (4, 1)] := by kernel_rfl
@[simp] theorem ti_40 : tiOf Tryz.prog 40 = some ⟨8, true, 80, [.at (.int .i64 0), .at (.int .i64 0), .at (.int .i64 0), .at (.int .i64 0), .at (.int .i64 0), .at (.int .i64 0), .at (.int .i64 0), .nl]⟩ := by kernel_rfl
@[simp] theorem tk_40 : tkOf Tryz.prog 40 = .struct [(0, 1), (1, 1), (2, 1), (3, 5)] := by kernel_rfl
@[simp] theorem ti_41 : tiOf Tryz.prog 41 = some ⟨8, true, 80, [.at (.int .i64 0), .at (.int .i64 0), .at (.int .i64 0), .at (.int .i64 0), .at (.int .i64 0), .at (.int .i64 0), .at (.int .i64 0), .nl]⟩ := by kernel_rfl
@[simp] theorem tk_41 : tkOf Tryz.prog 41 = .struct [(0, 1), (1, 1), (2, 1), (3, 5)] := by kernel_rfl
@[simp] theorem ti_42 : tiOf Tryz.prog 42 = some ⟨1, false, 8, [.at (.int .i64 0)]⟩ := by kernel_rfl
@[simp] theorem tk_42 : tkOf Tryz.prog 42 = .int .i64 := by kernel_rfl
@[simp] theorem ti_44 : tiOf Tryz.prog 44 = some ⟨1, false, 8, [.at .nilFunc]⟩ := by kernel_rfl
@[simp] theorem ti_45 : tiOf Tryz.prog 45 = some ⟨1, false, 8, [.at .nilFunc]⟩ := by kernel_rfl
@[simp] theorem ti_46 : tiOf Tryz.prog 46 = some ⟨1, false, 8, [.at .nilFunc]⟩ := by kernel_rfl
@[simp] theorem ti_47 : tiOf Tryz.prog 47 = some ⟨1, false, 8, [.at .nilFunc]⟩ := by kernel_rfl
@[simp] theorem ti_48 : tiOf Tryz.prog 48 = some ⟨1, false, 8, [.at .nilFunc]⟩ := by kernel_rfl
@[simp] theorem ti_49 : tiOf Tryz.prog 49 = some ⟨1, false, 8, [.at .nilFunc]⟩ := by kernel_rfl
@[simp] theorem ti_50 : tiOf Tryz.prog 50 = some ⟨7, true, 72, [.at (.int .i64 0), .at (.int .i64 0), .at (.int .i64 0), .at (.int .i64 0), .at (.int .i64 0), .at (.int .i64 0), .nl]⟩ := by kernel_rfl
@[simp] theorem tk_50 : tkOf Tryz.prog 50 = .struct [(0, 1), (1, 1), (2, 5)] := by kernel_rfl
@[simp] theorem ti_51 : tiOf Tryz.prog 51 = some ⟨7, true, 72, [.at (.int .i64 0), .at (.int .i64 0), .at (.int .i64 0), .at (.int .i64 0), .at (.int .i64 0), .at (.int .i64 0), .nl]⟩ := by kernel_rfl
@[simp] theorem tk_51 : tkOf Tryz.prog 51 = .struct [(0, 1), (1, 1), (2, 5)] := by kernel_rfl
@[simp] theorem ti_53 : tiOf Tryz.prog 53 = some ⟨1, false, 8, [.at .nilFunc]⟩ := by kernel_rfl
@[simp] theorem ti_54 : tiOf Tryz.prog 54 = some ⟨1, false, 8, [.at .nilFunc]⟩ := by kernel_rfl
@[simp] theorem ti_55 : tiOf Tryz.prog 55 = some ⟨1, false, 8, [.at .nilFunc]⟩ := by kernel_rfl
@[simp] theorem ti_56 : tiOf Tryz.prog 56 = some ⟨1, false, 24, [.nl]⟩ := by kernel_rfl
@[simp] theorem tk_56 : tkOf Tryz.prog 56 = .slice 51 := by kernel_rfl
@[simp] theorem ti_58 : tiOf Tryz.prog 58 = some ⟨1, false, 8, [.at .nilFunc]⟩ := by kernel_rfl
@[simp] theorem ti_59 : tiOf Tryz.prog 59 = some ⟨1, false, 8, [.at .nilFunc]⟩ := by kernel_rfl
@[simp] theorem ti_60 : tiOf Tryz.prog 60 = some ⟨1, false, 8, [.at .nilFunc]⟩ := by kernel_rfl
@[simp] theorem ti_62 : tiOf Tryz.prog 62 = some ⟨1, false, 8, [.at .nilFunc]⟩ := by kernel_rfl
@[simp] theorem ti_63 : tiOf Tryz.prog 63 = some ⟨1, false, 8, [.at .nilFunc]⟩ := by kernel_rfl
@[simp] theorem ti_64 : tiOf Tryz.prog 64 = some ⟨1, false, 8, [.at .nilFunc]⟩ := by kernel_rfl
@[simp] theorem ti_65 : tiOf Tryz.prog 65 = some ⟨1, false, 8, [.at .nilFunc]⟩ := by kernel_rfl
@[simp] theorem ti_66 : tiOf Tryz.prog 66 = some ⟨1, false, 24, [.nl]⟩ := by kernel_rfl
@[simp] theorem tk_66 : tkOf Tryz.prog 66 = .slice 41 := by kernel_rfl
@[simp] theorem ti_67 : tiOf Tryz.prog 67 = some ⟨1, false, 24, [.nl]⟩ := by kernel_rfl
@[simp] theorem tk_67 : tkOf Tryz.prog 67 = .slice 42 := by kernel_rfl
@[simp] theorem ti_69 : tiOf Tryz.prog 69 = some ⟨1, false, 8, [.at .nilFunc]⟩ := by kernel_rfl
@[simp] theorem ti_70 : tiOf Tryz.prog 70 = some ⟨1, false, 8, [.at .nilFunc]⟩ := by kernel_rfl
@[simp] theorem ti_71 : tiOf Tryz.prog 71 = some ⟨1, false, 8, [.at .nilFunc]⟩ := by kernel_rfl
@[simp] theorem ti_72 : tiOf Tryz.prog 72 = some ⟨1, false, 8, [.at .nilFunc]⟩ := by kernel_rfl
@[simp] theorem ti_73 : tiOf Tryz.prog 73 = some ⟨1, false, 8, [.at .nilFunc]⟩ := by kernel_rfl
@[simp] theorem ti_74 : tiOf Tryz.prog 74 = some ⟨1, false, 8, [.at (.pointer none)]⟩ := by kernel_rfl
@[simp] theorem ti_75 : tiOf Tryz.prog 75 = some ⟨3, true, 40, [.at (.int .i64 0), .at (.int .i64 0), .nl]⟩ := by kernel_rfl
@[simp] theorem tk_75 : tkOf Tryz.prog 75 = .struct [(0, 1), (1, 1), (2, 1)] := by kernel_rfl
@[simp] theorem ti_76 : tiOf Tryz.prog 76 = some ⟨3, true, 40, [.at (.int .i64 0), .at (.int .i64 0), .nl]⟩ := by kernel_rfl
@[simp] theorem tk_76 : tkOf Tryz.prog 76 = .struct [(0, 1), (1, 1), (2, 1)] := by kernel_rfl
@[simp] theorem ti_77 : tiOf Tryz.prog 77 = some ⟨11, true, 120, [.at (.bool false), .at (.int .i64 0), .at (.int .i64 0), .at (.int .i64 0), .at (.int .i64 0), .at (.int .i64 0), .at (.int .i64 0), .nl, .at (.int .i64 0), .at (.int .i64 0), .nl]⟩ := by kernel_rfl
@[simp] theorem tk_77 : tkOf Tryz.prog 77 = .struct [(0, 1), (1, 1), (2, 1), (3, 5), (8, 3)] := by kernel_rfl
@[simp] theorem ti_78 : tiOf Tryz.prog 78 = some ⟨11, true, 120, [.at (.bool false), .at (.int .i64 0), .at (.int .i64 0), .at (.int .i64 0), .at (.int .i64 0), .at (.int .i64 0), .at (.int .i64 0), .nl, .at (.int .i64 0), .at (.int .i64 0), .nl]⟩ := by kernel_rfl
@[simp] theorem tk_78 : tkOf Tryz.prog 78 = .struct [(0, 1), (1, 1), (2, 1), (3, 5), (8, 3)] := by kernel_rfl
@[simp] theorem ti_79 : tiOf Tryz.prog 79 = some ⟨1, false, 8, [.at .nilFunc]⟩ := by kernel_rfl
@[simp] theorem ti_80 : tiOf Tryz.prog 80 = some ⟨1, false, 24, [.nl]⟩ := by kernel_rfl
@[simp] theorem tk_80 : tkOf Tryz.prog 80 = .slice 76 := by kernel_rfl
@[simp] theorem ti_82 : tiOf Tryz.prog 82 = some ⟨1, false, 8, [.at .nilFunc]⟩ := by kernel_rfl
@[simp] theorem ti_83 : tiOf Tryz.prog 83 = some ⟨1, false, 8, [.at .nilFunc]⟩ := by kernel_rfl
@[simp] theorem ti_84 : tiOf Tryz.prog 84 = some ⟨8, true, 96, [.at (.int .i64 0), .at (.bool false), .at (.int .i64 0), .at (.int .i64 0), .at (.int .i64 0), .at (.int .i64 0), .nl, .nl]⟩ := by kernel_rfl
@[simp] theorem tk_84 : tkOf Tryz.prog 84 = .struct [(0, 1), (1, 1), (2, 5), (7, 1)] := by kernel_rfl
@[simp] theorem ti_85 : tiOf Tryz.prog 85 = some ⟨8, true, 96, [.at (.int .i64 0), .at (.bool false), .at (.int .i64 0), .at (.int .i64 0), .at (.int .i64 0), .at (.int .i64 0), .nl, .nl]⟩ := by kernel_rfl
@[simp] theorem tk_85 : tkOf Tryz.prog 85 = .struct [(0, 1), (1, 1), (2, 5), (7, 1)] := by kernel_rfl
@[simp] theorem ti_86 : tiOf Tryz.prog 86 = some ⟨1, false, 8, [.at .nilFunc]⟩ := by kernel_rfl
@[simp] theorem ti_87 : tiOf Tryz.prog 87 = some ⟨1, false, 8, [.at .nilFunc]⟩ := by kernel_rfl
@[simp] theorem ti_88 : tiOf Tryz.prog 88 = some ⟨1, false, 8, [.at .nilFunc]⟩ := by kernel_rfl
@[simp] theorem ti_89 : tiOf Tryz.prog 89 = some ⟨1, false, 8, [.at .nilFunc]⟩ := by kernel_rfl
@[simp] theorem ti_90 : tiOf Tryz.prog 90 = some ⟨2, true, 32, [.at (.int .i64 0), .nl]⟩ := by kernel_rfl
@[simp] theorem tk_90 : tkOf Tryz.prog 90 = .struct [(0, 1), (1, 1)] := by kernel_rfl
@[simp] theorem ti_91 : tiOf Tryz.prog 91 = some ⟨2, true, 32, [.at (.int .i64 0), .nl]⟩ := by kernel_rfl
@[simp] theorem tk_91 : tkOf Tryz.prog 91 = .struct [(0, 1), (1, 1)] := by kernel_rfl
@[simp] theorem ti_93 : tiOf Tryz.prog 93 = some ⟨1, false, 8, [.at .nilFunc]⟩ := by kernel_rfl
@[simp] theorem ti_94 : tiOf Tryz.prog 94 = some ⟨1, false, 8, [.at .nilFunc]⟩ := by kernel_rfl
@[simp] theorem ti_95 : tiOf Tryz.prog 95 = some ⟨1, false, 8, [.at .nilFunc]⟩ := by kernel_rfl
@[simp] theorem ti_96 : tiOf Tryz.prog 96 = some ⟨1, false, 8, [.at .nilFunc]⟩ := by kernel_rfl
@[simp] theorem ti_97 : tiOf Tryz.prog 97 = some ⟨1, false, 8, [.at .nilFunc]⟩ := by kernel_rfl
@[simp] theorem ti_98 : tiOf Tryz.prog 98 = some ⟨1, false, 8, [.at .nilFunc]⟩ := by kernel_rfl
@[simp] theorem ti_99 : tiOf Tryz.prog 99 = some ⟨1, false, 8, [.at .nilFunc]⟩ := by kernel_rfl
@[simp] theorem ti_100 : tiOf Tryz.prog 100 = some ⟨1, false, 8, [.at .nilFunc]⟩ := by kernel_rfl
@[simp] theorem ti_101 : tiOf Tryz.prog 101 = some ⟨1, false, 8, [.at .nilFunc]⟩ := by kernel_rfl
@[simp] theorem ti_102 : tiOf Tryz.prog 102 = some ⟨1, false, 8, [.at .nilFunc]⟩ := by kernel_rfl
@[simp] theorem ti_103 : tiOf Tryz.prog 103 = some ⟨1, false, 8, [.at .nilFunc]⟩ := by kernel_rfl
@[simp] theorem ti_104 : tiOf Tryz.prog 104 = some ⟨1, false, 8, [.at .nilFunc]⟩ := by kernel_rfl
@[simp] theorem ti_105 : tiOf Tryz.prog 105 = some ⟨1, false, 8, [.at .nilFunc]⟩ := by kernel_rfl
@[simp] theorem ti_107 : tiOf Tryz.prog 107 = some ⟨1, false, 8, [.at .nilFunc]⟩ := by kernel_rfl
@[simp] theorem ti_109 : tiOf Tryz.prog 109 = some ⟨1, false, 8, [.at .nilFunc]⟩ := by kernel_rfl
@[simp] theorem ti_110 : tiOf Tryz.prog 110 = some ⟨4, true, 48, [.at (.int .i64 0), .at (.int .i64 0), .at (.int .i64 0), .nl]⟩ := by kernel_rfl
@[simp] theorem tk_110 : tkOf Tryz.prog 110 = .struct [(0, 1), (1, 3)] := by kernel_rfl
@[simp] theorem ti_111 : tiOf Tryz.prog 111 = some ⟨4, true, 48, [.at (.int .i64 0), .at (.int .i64 0), .at (.int .i64 0), .nl]⟩ := by kernel_rfl
@[simp] theorem tk_111 : tkOf Tryz.prog 111 = .struct [(0, 1), (1, 3)] := by kernel_rfl
@[simp] theorem ti_112 : tiOf Tryz.prog 112 = some ⟨1, false, 8, [.at .nilFunc]⟩ := by kernel_rfl
@[simp] theorem ti_113 : tiOf Tryz.prog 113 = some ⟨1, false, 8, [.at .nilFunc]⟩ := by kernel_rfl
@[simp] theorem ti_115 : tiOf Tryz.prog 115 = some ⟨1, false, 8, [.at .nilFunc]⟩ := by kernel_rfl
@[simp] theorem ti_116 : tiOf Tryz.prog 116 = some ⟨1, false, 8, [.at .nilFunc]⟩ := by kernel_rfl
@[simp] theorem ti_117 : tiOf Tryz.prog 117 = some ⟨1, false, 8, [.at .nilFunc]⟩ := by kernel_rfl
@[simp] theorem ti_119 : tiOf Tryz.prog 119 = some ⟨1, false, 8, [.at .nilFunc]⟩ := by kernel_rfl
@[simp] theorem ti_120 : tiOf Tryz.prog 120 = some ⟨1, false, 8, [.at .nilFunc]⟩ := by kernel_rfl
@[simp] theorem ti_121 : tiOf Tryz.prog 121 = some ⟨1, false, 8, [.at .nilFunc]⟩ := by kernel_rfl
@[simp] theorem ti_122 : tiOf Tryz.prog 122 = some ⟨1, false, 8, [.at .nilFunc]⟩ := by kernel_rfl
@[simp] theorem ti_123 : tiOf Tryz.prog 123 = some ⟨1, false, 8, [.at .nilFunc]⟩ := by kernel_rfl
@[simp] theorem ti_124 : tiOf Tryz.prog 124 = some ⟨1, false, 8, [.at .nilFunc]⟩ := by kernel_rfl
@[simp] theorem ti_125 : tiOf Tryz.prog 125 = some ⟨1, false, 8, [.at .nilFunc]⟩ := by kernel_rfl
@[simp] theorem ti_126 : tiOf Tryz.prog 126 = some ⟨1, false, 8, [.at .nilFunc]⟩ := by kernel_rfl
@[simp] theorem ti_127 : tiOf Tryz.prog 127 = some ⟨1, false, 8, [.at .nilFunc]⟩ := by kernel_rfl
@[simp] theorem ti_128 : tiOf Tryz.prog 128 = some ⟨1, false, 8, [.at .nilFunc]⟩ := by kernel_rfl
@[simp] theorem ti_129 : tiOf Tryz.prog 129 = some ⟨1, false, 8, [.at .nilFunc]⟩ := by kernel_rfl
@[simp] theorem ti_130 : tiOf Tryz.prog 130 = some ⟨1, false, 8, [.at .nilFunc]⟩ := by kernel_rfl
@[simp] theorem ti_131 : tiOf Tryz.prog 131 = some ⟨1, false, 8, [.at .nilFunc]⟩ := by kernel_rfl
@[simp] theorem ti_132 : tiOf Tryz.prog 132 = some ⟨1, false, 8, [.at .nilFunc]⟩ := by kernel_rfl
@[simp] theorem ti_133 : tiOf Tryz.prog 133 = some ⟨1, false, 8, [.at .nilFunc]⟩ := by kernel_rfl
@[simp] theorem ti_134 : tiOf Tryz.prog 134 = some ⟨1, false, 8, [.at .nilFunc]⟩ := by kernel_rfl
@[simp] theorem ti_135 : tiOf Tryz.prog 135 = some ⟨1, false, 8, [.at .nilFunc]⟩ := by kernel_rfl
@[simp] theorem ti_136 : tiOf Tryz.prog 136 = some ⟨1, false, 24, [.nl]⟩ := by kernel_rfl
@[simp] theorem tk_136 : tkOf Tryz.prog 136 = .slice 35 := by kernel_rfl
@[simp] theorem ti_137 : tiOf Tryz.prog 137 = some ⟨1, false, 8, [.at .nilFunc]⟩ := by kernel_rfl
@[simp] theorem ti_138 : tiOf Tryz.prog 138 = some ⟨1, false, 8, [.at .nilFunc]⟩ := by kernel_rfl
@[simp] theorem ti_140 : tiOf Tryz.prog 140 = some ⟨1, false, 8, [.at .nilFunc]⟩ := by kernel_rfl
@[simp] theorem ti_141 : tiOf Tryz.prog 141 = some ⟨1, false, 8, [.at .nilFunc]⟩ := by kernel_rfl
@[simp] theorem ti_142 : tiOf Tryz.prog 142 = some ⟨1, false, 8, [.at .nilFunc]⟩ := by kernel_rfl
@[simp] theorem ti_143 : tiOf Tryz.prog 143 = some ⟨1, false, 8, [.at .nilFunc]⟩ := by kernel_rfl
@[simp] theorem ti_144 : tiOf Tryz.prog 144 = some ⟨1, false, 24, [.nl]⟩ := by kernel_rfl
@[simp] theorem tk_144 : tkOf Tryz.prog 144 = .slice 31 := by kernel_rfl
@[simp] theorem ti_145 : tiOf Tryz.prog 145 = some ⟨1, false, 8, [.at .nilFunc]⟩ := by kernel_rfl
@[simp] theorem ti_147 : tiOf Tryz.prog 147 = some ⟨1, false, 8, [.at .nilFunc]⟩ := by kernel_rfl
@[simp] theorem ti_149 : tiOf Tryz.prog 149 = some ⟨1, false, 8, [.at .nilFunc]⟩ := by kernel_rfl
@[simp] theorem ti_150 : tiOf Tryz.prog 150 = some ⟨1, false, 24, [.nl]⟩ := by kernel_rfl
@[simp] theorem tk_150 : tkOf Tryz.prog 150 = .slice 9 := by kernel_rfl
@[simp] theorem ti_151 : tiOf Tryz.prog 151 = some ⟨1, false, 8, [.at .nilFunc]⟩ := by kernel_rfl
@[simp] theorem ti_152 : tiOf Tryz.prog 152 = some ⟨1, false, 8, [.at .nilFunc]⟩ := by kernel_rfl
@[simp] theorem ti_153 : tiOf Tryz.prog 153 = some ⟨1, false, 8, [.at .nilFunc]⟩ := by kernel_rfl
@[simp] theorem ti_154 : tiOf Tryz.prog 154 = some ⟨1, false, 24, [.nl]⟩ := by kernel_rfl
@[simp] theorem tk_154 : tkOf Tryz.prog 154 = .slice 56 := by kernel_rfl
@[simp] theorem ti_155 : tiOf Tryz.prog 155 = some ⟨1, false, 8, [.at .nilFunc]⟩ := by kernel_rfl
@[simp] theorem ti_156 : tiOf Tryz.prog 156 = some ⟨1, false, 8, [.at .nilFunc]⟩ := by kernel_rfl
@[simp] theorem ti_157 : tiOf Tryz.prog 157 = some ⟨1, false, 8, [.at .nilFunc]⟩ := by kernel_rfl
@[simp] theorem ti_158 : tiOf Tryz.prog 158 = some ⟨1, false, 8, [.at .nilFunc]⟩ := by kernel_rfl
@[simp] theorem ti_159 : tiOf Tryz.prog 159 = some ⟨1, false, 8, [.at .nilFunc]⟩ := by kernel_rfl
@[simp] theorem ti_160 : tiOf Tryz.prog 160 = some ⟨1, false, 8, [.at .nilFunc]⟩ := by kernel_rfl
@[simp] theorem ti_161 : tiOf Tryz.prog 161 = some ⟨2, true, 24, [.at (.string ByteArray.empty), .at (.bool false)]⟩ := by kernel_rfl
@[simp] theorem tk_161 : tkOf Tryz.prog 161 = .struct [(0, 1), (1, 1)] := by kernel_rfl
@[simp] theorem ti_162 : tiOf Tryz.prog 162 = some ⟨1, false, 24, [.nl]⟩ := by kernel_rfl
@[simp] theorem tk_162 : tkOf Tryz.prog 162 = .slice 161 := by kernel_rfl
@[simp] theorem ti_163 : tiOf Tryz.prog 163 = some ⟨1, false, 8, [.at .nilFunc]⟩ := by kernel_rfl
@[simp] theorem ti_164 : tiOf Tryz.prog 164 = some ⟨1, false, 8, [.at .nilFunc]⟩ := by kernel_rfl
@[simp] theorem ti_165 : tiOf Tryz.prog 165 = some ⟨1, false, 8, [.at .nilFunc]⟩ := by kernel_rfl
@[simp] theorem ti_166 : tiOf Tryz.prog 166 = some ⟨1, false, 8, [.at (.pointer none)]⟩ := by kernel_rfl
@[simp] theorem ti_168 : tiOf Tryz.prog 168 = some ⟨1, false, 8, [.at .nilFunc]⟩ := by kernel_rfl
@[simp] theorem ti_169 : tiOf Tryz.prog 169 = some ⟨4, true, 4, [.at (.bool false), .at (.bool false), .at (.bool false), .at (.bool false)]⟩ := by kernel_rfl
@[simp] theorem tk_169 : tkOf Tryz.prog 169 = .array 4 4 := by kernel_rfl
@[simp] theorem ti_170 : tiOf Tryz.prog 170 = some ⟨1, false, 8, [.at .nilFunc]⟩ := by kernel_rfl
@[simp] theorem ti_171 : tiOf Tryz.prog 171 = some ⟨1, false, 8, [.at .nilFunc]⟩ := by kernel_rfl
@[simp] theorem ti_172 : tiOf Tryz.prog 172 = some ⟨1, false, 8, [.at .nilFunc]⟩ := by kernel_rfl
@[simp] theorem ti_173 : tiOf Tryz.prog 173 = some ⟨1, false, 8, [.at .nilFunc]⟩ := by kernel_rfl
@[simp] theorem ti_175 : tiOf Tryz.prog 175 = some ⟨1, false, 8, [.at .nilFunc]⟩ := by kernel_rfl
@[simp] theorem ti_176 : tiOf Tryz.prog 176 = some ⟨1, false, 8, [.at .nilFunc]⟩ := by kernel_rfl
@[simp] theorem ti_178 : tiOf Tryz.prog 178 = some ⟨1, false, 8, [.at .nilFunc]⟩ := by kernel_rfl
@[simp] theorem ti_180 : tiOf Tryz.prog 180 = some ⟨1, false, 8, [.at .nilFunc]⟩ := by kernel_rfl
@[simp] theorem ti_181 : tiOf Tryz.prog 181 = some ⟨1, false, 8, [.at .nilFunc]⟩ := by kernel_rfl
@[simp] theorem ti_182 : tiOf Tryz.prog 182 = some ⟨3, true, 24, [.at (.int .i64 0), .at (.int .i64 0), .at (.int .i64 0)]⟩ := by kernel_rfl
@[simp] theorem tk_182 : tkOf Tryz.prog 182 = .array 3 3 := by kernel_rfl
@[simp] theorem ti_184 : tiOf Tryz.prog 184 = some ⟨1, false, 8, [.at .nilFunc]⟩ := by kernel_rfl
@[simp] theorem ti_186 : tiOf Tryz.prog 186 = some ⟨1, false, 8, [.at .nilFunc]⟩ := by kernel_rfl
@[simp] theorem ti_187 : tiOf Tryz.prog 187 = some ⟨1, false, 8, [.at .nilFunc]⟩ := by kernel_rfl
@[simp] theorem ti_188 : tiOf Tryz.prog 188 = some ⟨1, false, 8, [.at .nilFunc]⟩ := by kernel_rfl
@[simp] theorem ti_189 : tiOf Tryz.prog 189 = some ⟨1, false, 8, [.at .nilFunc]⟩ := by kernel_rfl
@[simp] theorem ti_191 : tiOf Tryz.prog 191 = some ⟨1, false, 8, [.at .nilFunc]⟩ := by kernel_rfl
@[simp] theorem ti_192 : tiOf Tryz.prog 192 = some ⟨1, false, 8, [.at .nilFunc]⟩ := by kernel_rfl
@[simp] theorem ti_193 : tiOf Tryz.prog 193 = some ⟨1, false, 8, [.at .nilFunc]⟩ := by kernel_rfl
@[simp] theorem ti_194 : tiOf Tryz.prog 194 = some ⟨1, false, 8, [.at .nilFunc]⟩ := by kernel_rfl
@[simp] theorem ti_195 : tiOf Tryz.prog 195 = some ⟨1, false, 8, [.at .nilFunc]⟩ := by kernel_rfl
@[simp] theorem ti_196 : tiOf Tryz.prog 196 = some ⟨1, false, 8, [.at .nilFunc]⟩ := by kernel_rfl
@[simp] theorem ti_197 : tiOf Tryz.prog 197 = some ⟨1, false, 8, [.at .nilFunc]⟩ := by kernel_rfl
@[simp] theorem ti_199 : tiOf Tryz.prog 199 = some ⟨1, false, 8, [.at .nilFunc]⟩ := by kernel_rfl
@[simp] theorem ti_201 : tiOf Tryz.prog 201 = some ⟨1, false, 8, [.at .nilFunc]⟩ := by kernel_rfl
@[simp] theorem ti_202 : tiOf Tryz.prog 202 = some ⟨1, false, 24, [.nl]⟩ := by kernel_rfl
@[simp] theorem tk_202 : tkOf Tryz.prog 202 = .slice 23 := by kernel_rfl
@[simp] theorem ti_203 : tiOf Tryz.prog 203 = some ⟨1, false, 8, [.at .nilFunc]⟩ := by kernel_rfl
@[simp] theorem ti_204 : tiOf Tryz.prog 204 = some ⟨1, false, 8, [.at .nilFunc]⟩ := by kernel_rfl
@[simp] theorem ti_205 : tiOf Tryz.prog 205 = some ⟨1, false, 8, [.at .nilFunc]⟩ := by kernel_rfl
@[simp] theorem ti_207 : tiOf Tryz.prog 207 = some ⟨1, false, 8, [.at .nilFunc]⟩ := by kernel_rfl
@[simp] theorem ti_208 : tiOf Tryz.prog 208 = some ⟨1, false, 8, [.at .nilFunc]⟩ := by kernel_rfl
@[simp] theorem ti_209 : tiOf Tryz.prog 209 = some ⟨1, false, 8, [.at .nilFunc]⟩ := by kernel_rfl
@[simp] theorem ti_210 : tiOf Tryz.prog 210 = some ⟨1, false, 8, [.at .nilFunc]⟩ := by kernel_rfl
@[simp] theorem ti_212 : tiOf Tryz.prog 212 = some ⟨1, false, 8, [.at .nilFunc]⟩ := by kernel_rfl
@[simp] theorem ti_214 : tiOf Tryz.prog 214 = some ⟨1, false, 8, [.at .nilFunc]⟩ := by kernel_rfl
@[simp] theorem ti_215 : tiOf Tryz.prog 215 = some ⟨1, false, 8, [.at .nilFunc]⟩ := by kernel_rfl
@[simp] theorem ti_216 : tiOf Tryz.prog 216 = some ⟨1, false, 16, [.at .nilIface]⟩ := by kernel_rfl
@[simp] theorem tk_216 : tkOf Tryz.prog 216 = .iface := by kernel_rfl
@[simp] theorem ti_217 : tiOf Tryz.prog 217 = some ⟨1, false, 16, [.at .nilIface]⟩ := by kernel_rfl
@[simp] theorem tk_217 : tkOf Tryz.prog 217 = .iface := by kernel_rfl
@[simp] theorem ti_219 : tiOf Tryz.prog 219 = some ⟨1, false, 8, [.at .nilFunc]⟩ := by kernel_rfl
@[simp] theorem ti_220 : tiOf Tryz.prog 220 = some ⟨1, false, 8, [.at .nilFunc]⟩ := by kernel_rfl
@[simp] theorem ti_221 : tiOf Tryz.prog 221 = some ⟨1, false, 8, [.at (.pointer none)]⟩ := by kernel_rfl
@[simp] theorem ti_222 : tiOf Tryz.prog 222 = some ⟨3, true, 24, [.at (.pointer none), .at (.pointer none), .at (.pointer none)]⟩ := by kernel_rfl
@[simp] theorem tk_222 : tkOf Tryz.prog 222 = .array 3 221 := by kernel_rfl
@[simp] theorem ti_223 : tiOf Tryz.prog 223 = some ⟨1, false, 8, [.at .nilFunc]⟩ := by kernel_rfl
@[simp] theorem ti_225 : tiOf Tryz.prog 225 = some ⟨1, false, 8, [.at .nilFunc]⟩ := by kernel_rfl
@[simp] theorem ti_226 : tiOf Tryz.prog 226 = some ⟨1, false, 8, [.at .nilFunc]⟩ := by kernel_rfl
@[simp] theorem ti_227 : tiOf Tryz.prog 227 = some ⟨1, false, 8, [.at .nilFunc]⟩ := by kernel_rfl
@[simp] theorem ti_228 : tiOf Tryz.prog 228 = some ⟨1, false, 8, [.at .nilFunc]⟩ := by kernel_rfl
@[simp] theorem ti_229 : tiOf Tryz.prog 229 = some ⟨1, false, 8, [.at (.pointer none)]⟩ := by kernel_rfl
@[simp] theorem ti_230 : tiOf Tryz.prog 230 = some ⟨1, false, 8, [.at .nilFunc]⟩ := by kernel_rfl
@[simp] theorem ti_232 : tiOf Tryz.prog 232 = some ⟨1, false, 8, [.at .nilFunc]⟩ := by kernel_rfl
@[simp] theorem ti_233 : tiOf Tryz.prog 233 = some ⟨24, true, 24, [.at (.int .u8 0), .at (.int .u8 0), .at (.int .u8 0), .at (.int .u8 0), .at (.int .u8 0), .at (.int .u8 0), .at (.int .u8 0), .at (.int .u8 0), .at (.int .u8 0), .at (.int .u8 0), .at (.int .u8 0), .at (.int .u8 0), .at (.int .u8 0), .at (.int .u8 0), .at (.int .u8 0), .at (.int .u8 0), .at (.int .u8 0), .at (.int .u8 0), .at (.int .u8 0), .at (.int .u8 0), .at (.int .u8 0), .at (.int .u8 0), .at (.int .u8 0), .at (.int .u8 0)]⟩ := by kernel_rfl
@[simp] theorem tk_233 : tkOf Tryz.prog 233 = .array 24 5 := by kernel_rfl
@[simp] theorem ti_234 : tiOf Tryz.prog 234 = some ⟨1, false, 8, [.at (.int .u64 0)]⟩ := by kernel_rfl
@[simp] theorem tk_234 : tkOf Tryz.prog 234 = .int .u64 := by kernel_rfl
@[simp] theorem ti_235 : tiOf Tryz.prog 235 = some ⟨1, false, 8, [.at .nilFunc]⟩ := by kernel_rfl
@[simp] theorem ti_236 : tiOf Tryz.prog 236 = some ⟨1, false, 8, [.at .nilFunc]⟩ := by kernel_rfl
@[simp] theorem ti_238 : tiOf Tryz.prog 238 = some ⟨1, false, 8, [.at .nilFunc]⟩ := by kernel_rfl
@[simp] theorem ti_239 : tiOf Tryz.prog 239 = some ⟨1, false, 8, [.at .nilFunc]⟩ := by kernel_rfl
@[simp] theorem ti_240 : tiOf Tryz.prog 240 = some ⟨1, false, 8, [.at (.int .u64 0)]⟩ := by kernel_rfl
@[simp] theorem tk_240 : tkOf Tryz.prog 240 = .int .u64 := by kernel_rfl
@[simp] theorem ti_241 : tiOf Tryz.prog 241 = some ⟨1, false, 8, [.at .nilFunc]⟩ := by kernel_rfl
@[simp] theorem ti_242 : tiOf Tryz.prog 242 = some ⟨1, false, 8, [.at .nilFunc]⟩ := by kernel_rfl
@[simp] theorem ti_244 : tiOf Tryz.prog 244 = some ⟨1, false, 8, [.at .nilFunc]⟩ := by kernel_rfl
@[simp] theorem ti_245 : tiOf Tryz.prog 245 = some ⟨1, false, 8, [.at .nilFunc]⟩ := by kernel_rfl
@[simp] theorem ti_246 : tiOf Tryz.prog 246 = some ⟨1, false, 8, [.at .nilFunc]⟩ := by kernel_rfl
@[simp] theorem ti_247 : tiOf Tryz.prog 247 = some ⟨1, false, 8, [.at .nilFunc]⟩ := by kernel_rfl
@[simp] theorem ti_248 : tiOf Tryz.prog 248 = some ⟨1, false, 8, [.at (.pointer none)]⟩ := by kernel_rfl
@[simp] theorem ti_249 : tiOf Tryz.prog 249 = some ⟨1, false, 8, [.at .nilFunc]⟩ := by kernel_rfl
@[simp] theorem ti_250 : tiOf Tryz.prog 250 = some ⟨20, true, 160, [.at (.int .u64 0), .at (.int .u64 0), .at (.int .u64 0), .at (.int .u64 0), .at (.int .u64 0), .at (.int .u64 0), .at (.int .u64 0), .at (.int .u64 0), .at (.int .u64 0), .at (.int .u64 0), .at (.int .u64 0), .at (.int .u64 0), .at (.int .u64 0), .at (.int .u64 0), .at (.int .u64 0), .at (.int .u64 0), .at (.int .u64 0), .at (.int .u64 0), .at (.int .u64 0), .at (.int .u64 0)]⟩ := by kernel_rfl
@[simp] theorem tk_250 : tkOf Tryz.prog 250 = .array 20 234 := by kernel_rfl
@[simp] theorem ti_251 : tiOf Tryz.prog 251 = some ⟨1, false, 4, [.at (.int .u32 0)]⟩ := by kernel_rfl
@[simp] theorem tk_251 : tkOf Tryz.prog 251 = .int .u32 := by kernel_rfl
@[simp] theorem ti_253 : tiOf Tryz.prog 253 = some ⟨1, false, 8, [.at .nilFunc]⟩ := by kernel_rfl
@[simp] theorem ti_254 : tiOf Tryz.prog 254 = some ⟨1, false, 8, [.at .nilFunc]⟩ := by kernel_rfl
@[simp] theorem ti_256 : tiOf Tryz.prog 256 = some ⟨1, false, 8, [.at .nilFunc]⟩ := by kernel_rfl
@[simp] theorem ti_257 : tiOf Tryz.prog 257 = some ⟨1, false, 8, [.at (.int .i64 0)]⟩ := by kernel_rfl
@[simp] theorem tk_257 : tkOf Tryz.prog 257 = .int .i64 := by kernel_rfl
@[simp] theorem ti_258 : tiOf Tryz.prog 258 = some ⟨1, false, 8, [.at (.pointer none)]⟩ := by kernel_rfl
@[simp] theorem ti_259 : tiOf Tryz.prog 259 = some ⟨1, false, 8, [.at .nilFunc]⟩ := by kernel_rfl
@[simp] theorem ti_260 : tiOf Tryz.prog 260 = some ⟨1, false, 8, [.at .nilFunc]⟩ := by kernel_rfl
@[simp] theorem ti_262 : tiOf Tryz.prog 262 = some ⟨1, false, 8, [.at .nilFunc]⟩ := by kernel_rfl
@[simp] theorem ti_263 : tiOf Tryz.prog 263 = some ⟨1, false, 8, [.at .nilFunc]⟩ := by kernel_rfl
@[simp] theorem ti_264 : tiOf Tryz.prog 264 = some ⟨1, false, 8, [.at .nilFunc]⟩ := by kernel_rfl
@[simp] theorem ti_265 : tiOf Tryz.prog 265 = some ⟨1, false, 8, [.at .nilFunc]⟩ := by kernel_rfl
@[simp] theorem ti_266 : tiOf Tryz.prog 266 = some ⟨1, false, 8, [.at .nilFunc]⟩ := by kernel_rfl
@[simp] theorem ti_267 : tiOf Tryz.prog 267 = some ⟨1, false, 8, [.at .nilFunc]⟩ := by kernel_rfl
@[simp] theorem ti_268 : tiOf Tryz.prog 268 = some ⟨1, false, 8, [.at .nilFunc]⟩ := by kernel_rfl
@[simp] theorem ti_269 : tiOf Tryz.prog 269 = some ⟨3, true, 48, [.at (.string ByteArray.empty), .at (.string ByteArray.empty), .at .nilIface]⟩ := by kernel_rfl
@[simp] theorem tk_269 : tkOf Tryz.prog 269 = .struct [(0, 1), (1, 1), (2, 1)] := by kernel_rfl
@[simp] theorem ti_270 : tiOf Tryz.prog 270 = some ⟨3, true, 48, [.at (.string ByteArray.empty), .at (.string ByteArray.empty), .at .nilIface]⟩ := by kernel_rfl
@[simp] theorem tk_270 : tkOf Tryz.prog 270 = .struct [(0, 1), (1, 1), (2, 1)] := by kernel_rfl
@[simp] theorem ti_271 : tiOf Tryz.prog 271 = some ⟨1, false, 8, [.at .nilFunc]⟩ := by kernel_rfl
@[simp] theorem ti_273 : tiOf Tryz.prog 273 = some ⟨2, true, 2, [.at (.int .u8 0), .at (.int .u8 0)]⟩ := by kernel_rfl
@[simp] theorem tk_273 : tkOf Tryz.prog 273 = .struct [(0, 1), (1, 1)] := by kernel_rfl
@[simp] theorem ti_274 : tiOf Tryz.prog 274 = some ⟨2, true, 2, [.at (.int .u8 0), .at (.int .u8 0)]⟩ := by kernel_rfl
@[simp] theorem tk_274 : tkOf Tryz.prog 274 = .struct [(0, 1), (1, 1)] := by kernel_rfl
@[simp] theorem ti_275 : tiOf Tryz.prog 275 = some ⟨32, true, 32, [.at (.int .u8 0), .at (.int .u8 0), .at (.int .u8 0), .at (.int .u8 0), .at (.int .u8 0), .at (.int .u8 0), .at (.int .u8 0), .at (.int .u8 0), .at (.int .u8 0), .at (.int .u8 0), .at (.int .u8 0), .at (.int .u8 0), .at (.int .u8 0), .at (.int .u8 0), .at (.int .u8 0), .at (.int .u8 0), .at (.int .u8 0), .at (.int .u8 0), .at (.int .u8 0), .at (.int .u8 0), .at (.int .u8 0), .at (.int .u8 0), .at (.int .u8 0), .at (.int .u8 0), .at (.int .u8 0), .at (.int .u8 0), .at (.int .u8 0), .at (.int .u8 0), .at (.int .u8 0), .at (.int .u8 0), .at (.int .u8 0), .at (.int .u8 0)]⟩ := by kernel_rfl
@[simp] theorem tk_275 : tkOf Tryz.prog 275 = .array 16 274 := by kernel_rfl
@[simp] theorem ti_276 : tiOf Tryz.prog 276 = some ⟨1, false, 8, [.at .nilFunc]⟩ := by kernel_rfl
@[simp] theorem ti_277 : tiOf Tryz.prog 277 = some ⟨1, false, 8, [.at .nilFunc]⟩ := by kernel_rfl
@[simp] theorem ti_278 : tiOf Tryz.prog 278 = some ⟨1, false, 8, [.at .nilFunc]⟩ := by kernel_rfl
@[simp] theorem ti_279 : tiOf Tryz.prog 279 = some ⟨1, false, 8, [.at .nilFunc]⟩ := by kernel_rfl
@[simp] theorem ti_280 : tiOf Tryz.prog 280 = some ⟨32, true, 32, [.at (.int .u8 0), .at (.int .u8 0), .at (.int .u8 0), .at (.int .u8 0), .at (.int .u8 0), .at (.int .u8 0), .at (.int .u8 0), .at (.int .u8 0), .at (.int .u8 0), .at (.int .u8 0), .at (.int .u8 0), .at (.int .u8 0), .at (.int .u8 0), .at (.int .u8 0), .at (.int .u8 0), .at (.int .u8 0), .at (.int .u8 0), .at (.int .u8 0), .at (.int .u8 0), .at (.int .u8 0), .at (.int .u8 0), .at (.int .u8 0), .at (.int .u8 0), .at (.int .u8 0), .at (.int .u8 0), .at (.int .u8 0), .at (.int .u8 0), .at (.int .u8 0), .at (.int .u8 0), .at (.int .u8 0), .at (.int .u8 0), .at (.int .u8 0)]⟩ := by kernel_rfl
@[simp] theorem tk_280 : tkOf Tryz.prog 280 = .array 32 5 := by kernel_rfl
@[simp] theorem ti_281 : tiOf Tryz.prog 281 = some ⟨64, true, 64, [.at (.int .u8 0), .at (.int .u8 0), .at (.int .u8 0), .at (.int .u8 0), .at (.int .u8 0), .at (.int .u8 0), .at (.int .u8 0), .at (.int .u8 0), .at (.int .u8 0), .at (.int .u8 0), .at (.int .u8 0), .at (.int .u8 0), .at (.int .u8 0), .at (.int .u8 0), .at (.int .u8 0), .at (.int .u8 0), .at (.int .u8 0), .at (.int .u8 0), .at (.int .u8 0), .at (.int .u8 0), .at (.int .u8 0), .at (.int .u8 0), .at (.int .u8 0), .at (.int .u8 0), .at (.int .u8 0), .at (.int .u8 0), .at (.int .u8 0), .at (.int .u8 0), .at (.int .u8 0), .at (.int .u8 0), .at (.int .u8 0), .at (.int .u8 0), .at (.int .u8 0), .at (.int .u8 0), .at (.int .u8 0), .at (.int .u8 0), .at (.int .u8 0), .at (.int .u8 0), .at (.int .u8 0), .at (.int .u8 0), .at (.int .u8 0), .at (.int .u8 0), .at (.int .u8 0), .at (.int .u8 0), .at (.int .u8 0), .at (.int .u8 0), .at (.int .u8 0), .at (.int .u8 0), .at (.int .u8 0), .at (.int .u8 0), .at (.int .u8 0), .at (.int .u8 0), .at (.int .u8 0), .at (.int .u8 0), .at (.int .u8 0), .at (.int .u8 0), .at (.int .u8 0), .at (.int .u8 0), .at (.int .u8 0), .at (.int .u8 0), .at (.int .u8 0), .at (.int .u8 0), .at (.int .u8 0), .at (.int .u8 0)]⟩ := by kernel_rfl
@[simp] theorem tk_281 : tkOf Tryz.prog 281 = .array 64 5 := by kernel_rfl
@[simp] theorem ti_282 : tiOf Tryz.prog 282 = some ⟨1, false, 8, [.at (.pointer none)]⟩ := by kernel_rfl
@[simp] theorem ti_283 : tiOf Tryz.prog 283 = some ⟨1, false, 8, [.at (.pointer none)]⟩ := by kernel_rfl
@[simp] theorem ti_284 : tiOf Tryz.prog 284 = some ⟨1, true, 16, [.at (.string ByteArray.empty)]⟩ := by kernel_rfl
@[simp] theorem tk_284 : tkOf Tryz.prog 284 = .struct [(0, 1)] := by kernel_rfl
@[simp] theorem ti_285 : tiOf Tryz.prog 285 = some ⟨1, true, 16, [.at (.string ByteArray.empty)]⟩ := by kernel_rfl
@[simp] theorem tk_285 : tkOf Tryz.prog 285 = .struct [(0, 1)] := by kernel_rfl
@[simp] theorem ti_286 : tiOf Tryz.prog 286 = some ⟨1, false, 8, [.at .nilFunc]⟩ := by kernel_rfl
@[simp] theorem ti_287 : tiOf Tryz.prog 287 = some ⟨4, true, 40, [.at (.pointer none), .at (.pointer none), .at (.pointer none), .at (.string ByteArray.empty)]⟩ := by kernel_rfl
@[simp] theorem tk_287 : tkOf Tryz.prog 287 = .struct [(0, 1), (1, 1), (2, 1), (3, 1)] := by kernel_rfl
@[simp] theorem ti_288 : tiOf Tryz.prog 288 = some ⟨4, true, 40, [.at (.pointer none), .at (.pointer none), .at (.pointer none), .at (.string ByteArray.empty)]⟩ := by kernel_rfl
@[simp] theorem tk_288 : tkOf Tryz.prog 288 = .struct [(0, 1), (1, 1), (2, 1), (3, 1)] := by kernel_rfl
@[simp] theorem ti_289 : tiOf Tryz.prog 289 = some ⟨0, true, 0, []⟩ := by kernel_rfl
@[simp] theorem tk_289 : tkOf Tryz.prog 289 = .array 0 16 := by kernel_rfl
@[simp] theorem ti_290 : tiOf Tryz.prog 290 = some ⟨0, true, 0, []⟩ := by kernel_rfl
@[simp] theorem tk_290 : tkOf Tryz.prog 290 = .struct [(0, 0)] := by kernel_rfl
@[simp] theorem ti_291 : tiOf Tryz.prog 291 = some ⟨0, true, 0, []⟩ := by kernel_rfl
@[simp] theorem tk_291 : tkOf Tryz.prog 291 = .struct [(0, 0)] := by kernel_rfl
@[simp] theorem ti_292 : tiOf Tryz.prog 292 = some ⟨1, false, 8, [.at .nilFunc]⟩ := by kernel_rfl
@[simp] theorem ti_293 : tiOf Tryz.prog 293 = some ⟨1, false, 1, [.at (.int .u8 0)]⟩ := by kernel_rfl
@[simp] theorem tk_293 : tkOf Tryz.prog 293 = .int .u8 := by kernel_rfl
@[simp] theorem ti_294 : tiOf Tryz.prog 294 = some ⟨1, false, 1, [.at (.int .u8 0)]⟩ := by kernel_rfl
@[simp] theorem tk_294 : tkOf Tryz.prog 294 = .int .u8 := by kernel_rfl
@[simp] theorem ti_295 : tiOf Tryz.prog 295 = some ⟨1, false, 8, [.at .nilFunc]⟩ := by kernel_rfl
@[simp] theorem ti_296 : tiOf Tryz.prog 296 = some ⟨1, false, 4, [.at (.int .i32 0)]⟩ := by kernel_rfl
@[simp] theorem tk_296 : tkOf Tryz.prog 296 = .int .i32 := by kernel_rfl
@[simp] theorem ti_297 : tiOf Tryz.prog 297 = some ⟨1, false, 4, [.at (.int .i32 0)]⟩ := by kernel_rfl
@[simp] theorem tk_297 : tkOf Tryz.prog 297 = .int .i32 := by kernel_rfl
@[simp] theorem ti_298 : tiOf Tryz.prog 298 = some ⟨11, true, 48, [.at (.int .u64 0), .at (.int .u64 0), .at (.int .u32 0), .at (.int .u8 0), .at (.int .u8 0), .at (.int .u8 0), .at (.int .u8 0), .at .nilFunc, .at (.pointer none), .at (.int .i32 0), .at (.int .i32 0)]⟩ := by kernel_rfl
@[simp] theorem tk_298 : tkOf Tryz.prog 298 = .struct [(0, 1), (1, 1), (2, 1), (3, 1), (4, 1), (5, 1), (6, 1), (7, 1), (8, 1), (9, 1), (10, 1)] := by kernel_rfl
@[simp] theorem ti_299 : tiOf Tryz.prog 299 = some ⟨11, true, 48, [.at (.int .u64 0), .at (.int .u64 0), .at (.int .u32 0), .at (.int .u8 0), .at (.int .u8 0), .at (.int .u8 0), .at (.int .u8 0), .at .nilFunc, .at (.pointer none), .at (.int .i32 0), .at (.int .i32 0)]⟩ := by kernel_rfl
@[simp] theorem tk_299 : tkOf Tryz.prog 299 = .struct [(0, 1), (1, 1), (2, 1), (3, 1), (4, 1), (5, 1), (6, 1), (7, 1), (8, 1), (9, 1), (10, 1)] := by kernel_rfl
@[simp] theorem ti_300 : tiOf Tryz.prog 300 = some ⟨1, false, 8, [.at (.pointer none)]⟩ := by kernel_rfl
end Go.Proofs.YtadmfokicjjglaaGreatDoor.E
