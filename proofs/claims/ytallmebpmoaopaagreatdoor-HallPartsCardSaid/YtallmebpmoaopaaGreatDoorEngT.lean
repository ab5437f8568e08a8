/- EngT: the types of the program, as the abstract machine asks for them. Printed by types.py. -/
import Derived.Test.YtallmebpmoaopaaGreatDoorProg
import Derived.Test.YtallmebpmoaopaaGreatDoorX1
namespace Go.Proofs.YtallmebpmoaopaaGreatDoor.E
open Go.RowKit Go.Proofs
set_option maxRecDepth 100000
@[simp] theorem ti_1 : tiOf Tryz.prog 1 = some ⟨1, false, 8, [.at .nilFunc]⟩ := by kernel_rfl
@[simp] theorem ti_2 : tiOf Tryz.prog 2 = some ⟨1, false, 8, [.at (.int .i64 0)]⟩ := by kernel_rfl
@[simp] theorem tk_2 : tkOf Tryz.prog 2 = .int .i64 := by kernel_rfl
@[simp] theorem ti_3 : tiOf Tryz.prog 3 = some ⟨1, false, 8, [.at (.int .i64 0)]⟩ := by kernel_rfl
@[simp] theorem tk_3 : tkOf Tryz.prog 3 = .int .i64 := by kernel_rfl
@[simp] theorem ti_4 : tiOf Tryz.prog 4 = some ⟨1, false, 1, [.at (.bool false)]⟩ := by kernel_rfl
@[simp] theorem tk_4 : tkOf Tryz.prog 4 = .bool := by kernel_rfl
@[simp] theorem ti_5 : tiOf Tryz.prog 5 = some ⟨1, false, 1, [.at (.int .u8 0)]⟩ := by kernel_rfl
@[simp] theorem tk_5 : tkOf Tryz.prog 5 = .int .u8 := by kernel_rfl
@[simp] theorem ti_6 : tiOf Tryz.prog 6 = some ⟨1, false, 1, [.at (.int .u8 0)]⟩ := by kernel_rfl
@[simp] theorem tk_6 : tkOf Tryz.prog 6 = .int .u8 := by kernel_rfl
@[simp] theorem ti_7 : tiOf Tryz.prog 7 = some ⟨4, true, 24, [.at (.int .i64 0), .at (.int .i64 0), .at (.bool false), .at (.int .u8 0)]⟩ := by kernel_rfl
@[simp] theorem tk_7 : tkOf Tryz.prog 7 = .struct [(0, 1), (1, 1), (2, 1), (3, 1)] := by kernel_rfl
@[simp] theorem ti_8 : tiOf Tryz.prog 8 = some ⟨4, true, 24, [.at (.int .i64 0), .at (.int .i64 0), .at (.bool false), .at (.int .u8 0)]⟩ := by kernel_rfl
@[simp] theorem tk_8 : tkOf Tryz.prog 8 = .struct [(0, 1), (1, 1), (2, 1), (3, 1)] := by kernel_rfl
@[simp] theorem ti_9 : tiOf Tryz.prog 9 = some ⟨1, false, 16, [.at (.string ByteArray.empty)]⟩ := by kernel_rfl
@[simp] theorem tk_9 : tkOf Tryz.prog 9 = .string := by kernel_rfl
@[simp] theorem ti_10 : tiOf Tryz.prog 10 = some ⟨1, false, 16, [.at (.string ByteArray.empty)]⟩ := by kernel_rfl
@[simp] theorem tk_10 : tkOf Tryz.prog 10 = .string := by kernel_rfl
@[simp] theorem ti_11 : tiOf Tryz.prog 11 = some ⟨1, false, 16, [.at (.string ByteArray.empty)]⟩ := by kernel_rfl
@[simp] theorem tk_11 : tkOf Tryz.prog 11 = .string := by kernel_rfl
@[simp] theorem ti_12 : tiOf Tryz.prog 12 = some ⟨1, false, 8, [.at (.int .u64 0)]⟩ := by kernel_rfl
@[simp] theorem tk_12 : tkOf Tryz.prog 12 = .int .u64 := by kernel_rfl
@[simp] theorem ti_13 : tiOf Tryz.prog 13 = some ⟨2, true, 24, [.at (.string ByteArray.empty), .at (.int .u64 0)]⟩ := by kernel_rfl
@[simp] theorem tk_13 : tkOf Tryz.prog 13 = .struct [(0, 1), (1, 1)] := by kernel_rfl
@[simp] theorem ti_14 : tiOf Tryz.prog 14 = some ⟨2, true, 24, [.at (.string ByteArray.empty), .at (.int .u64 0)]⟩ := by kernel_rfl
@[simp] theorem tk_14 : tkOf Tryz.prog 14 = .struct [(0, 1), (1, 1)] := by kernel_rfl
@[simp] theorem ti_15 : tiOf Tryz.prog 15 = some ⟨1, false, 8, [.at (.pointer none)]⟩ := by kernel_rfl
@[simp] theorem ti_16 : tiOf Tryz.prog 16 = some ⟨1, false, 8, [.at (.pointer none)]⟩ := by kernel_rfl
@[simp] theorem ti_17 : tiOf Tryz.prog 17 = some ⟨1, false, 8, [.at (.pointer none)]⟩ := by kernel_rfl
@[simp] theorem ti_18 : tiOf Tryz.prog 18 = some ⟨1, true, 8, [.at (.pointer none)]⟩ := by kernel_rfl
@[simp] theorem tk_18 : tkOf Tryz.prog 18 = .struct [(0, 1)] := by kernel_rfl
@[simp] theorem ti_19 : tiOf Tryz.prog 19 = some ⟨1, true, 8, [.at (.pointer none)]⟩ := by kernel_rfl
@[simp] theorem tk_19 : tkOf Tryz.prog 19 = .struct [(0, 1)] := by kernel_rfl
@[simp] theorem ti_20 : tiOf Tryz.prog 20 = some ⟨1, false, 16, [.at .nilIface]⟩ := by kernel_rfl
@[simp] theorem tk_20 : tkOf Tryz.prog 20 = .iface := by kernel_rfl
@[simp] theorem ti_21 : tiOf Tryz.prog 21 = some ⟨1, false, 4, [.at (.int .i32 0)]⟩ := by kernel_rfl
@[simp] theorem tk_21 : tkOf Tryz.prog 21 = .int .i32 := by kernel_rfl
@[simp] theorem ti_22 : tiOf Tryz.prog 22 = some ⟨1, false, 24, [.nl]⟩ := by kernel_rfl
@[simp] theorem tk_22 : tkOf Tryz.prog 22 = .slice 5 := by kernel_rfl
@[simp] theorem ti_23 : tiOf Tryz.prog 23 = some ⟨2, true, 48, [.nl, .nl]⟩ := by kernel_rfl
@[simp] theorem tk_23 : tkOf Tryz.prog 23 = .struct [(0, 1), (1, 1)] := by kernel_rfl
@[simp] theorem ti_24 : tiOf Tryz.prog 24 = some ⟨2, true, 48, [.nl, .nl]⟩ := by kernel_rfl
@[simp] theorem tk_24 : tkOf Tryz.prog 24 = .struct [(0, 1), (1, 1)] := by kernel_rfl
@[simp] theorem ti_25 : tiOf Tryz.prog 25 = some ⟨1, false, 24, [.nl]⟩ := by kernel_rfl
@[simp] theorem tk_25 : tkOf Tryz.prog 25 = .slice 3 := by kernel_rfl
@[simp] theorem ti_26 : tiOf Tryz.prog 26 = some ⟨5, true, 56, [.at (.int .i64 0), .at (.int .i64 0), .at (.int .i64 0), .at (.int .i64 0), .nl]⟩ := by kernel_rfl
@[simp] theorem tk_26 : tkOf Tryz.prog 26 = .struct [(0, 1), (1, 1), (2, 1), (3, 1), (4, 1)] := by kernel_rfl
@[simp] theorem ti_27 : tiOf Tryz.prog 27 = some ⟨5, true, 56, [.at (.int .i64 0), .at (.int .i64 0), .at (.int .i64 0), .at (.int .i64 0), .nl]⟩ := by kernel_rfl
@[simp] theorem tk_27 : tkOf Tryz.prog 27 = .struct [(0, 1), (1, 1), (2, 1), (3, 1), (4, 1)] := by kernel_rfl
@[simp] theorem ti_28 : tiOf Tryz.prog 28 = some ⟨7, true, 72, [.at (.int .i64 0), .at (.int .i64 0), .at (.int .i64 0), .at (.int .i64 0), .at (.int .i64 0), .at (.int .i64 0), .nl]⟩ := by kernel_rfl
@[simp] theorem tk_28 : tkOf Tryz.prog 28 = .struct [(0, 1), (1, 1), (2, 5)] := by kernel_rfl
@[simp] theorem ti_29 : tiOf Tryz.prog 29 = some ⟨7, true, 72, [.at (.int .i64 0), .at (.int .i64 0), .at (.int .i64 0), .at (.int .i64 0), .at (.int .i64 0), .at (.int .i64 0), .nl]⟩ := by kernel_rfl
@[simp] theorem tk_29 : tkOf Tryz.prog 29 = .struct [(0, 1), (1, 1), (2, 5)] := by kernel_rfl
@[simp] theorem ti_30 : tiOf Tryz.prog 30 = some ⟨1, false, 8, [.at (.int .i64 0)]⟩ := by kernel_rfl
@[simp] theorem tk_30 : tkOf Tryz.prog 30 = .int .i64 := by kernel_rfl
@[simp] theorem ti_32 : tiOf Tryz.prog 32 = some ⟨1, false, 8, [.at .nilFunc]⟩ := by kernel_rfl
@[simp] theorem ti_33 : tiOf Tryz.prog 33 = some ⟨1, false, 8, [.at .nilFunc]⟩ := by kernel_rfl
@[simp] theorem ti_34 : tiOf Tryz.prog 34 = some ⟨1, false, 8, [.at .nilFunc]⟩ := by kernel_rfl
@[simp] theorem ti_35 : tiOf Tryz.prog 35 = some ⟨1, false, 24, [.nl]⟩ := by kernel_rfl
@[simp] theorem tk_35 : tkOf Tryz.prog 35 = .slice 29 := by kernel_rfl
@[simp] theorem ti_37 : tiOf Tryz.prog 37 = some ⟨1, false, 8, [.at .nilFunc]⟩ := by kernel_rfl
@[simp] theorem ti_38 : tiOf Tryz.prog 38 = some ⟨1, false, 8, [.at .nilFunc]⟩ := by kernel_rfl
@[simp] theorem ti_39 : tiOf Tryz.prog 39 = some ⟨1, false, 8, [.at .nilFunc]⟩ := by kernel_rfl
@[simp] theorem ti_40 : tiOf Tryz.prog 40 = some ⟨1, false, 8, [.at .nilFunc]⟩ := by kernel_rfl
@[simp] theorem ti_42 : tiOf Tryz.prog 42 = some ⟨1, false, 8, [.at .nilFunc]⟩ := by kernel_rfl
@[simp] theorem ti_43 : tiOf Tryz.prog 43 = some ⟨1, false, 8, [.at .nilFunc]⟩ := by kernel_rfl
@[simp] theorem ti_44 : tiOf Tryz.prog 44 = some ⟨1, false, 8, [.at .nilFunc]⟩ := by kernel_rfl
@[simp] theorem ti_45 : tiOf Tryz.prog 45 = some ⟨1, false, 8, [.at .nilFunc]⟩ := by kernel_rfl
@[simp] theorem ti_46 : tiOf Tryz.prog 46 = some ⟨1, false, 24, [.nl]⟩ := by kernel_rfl
@[simp] theorem tk_46 : tkOf Tryz.prog 46 = .slice 76 := by kernel_rfl
@[simp] theorem ti_47 : tiOf Tryz.prog 47 = some ⟨3, true, 40, [.nl, .at (.int .i64 0), .at (.int .i64 0)]⟩ := by kernel_rfl
@[simp] theorem tk_47 : tkOf Tryz.prog 47 = .struct [(0, 1), (1, 1), (2, 1)] := by kernel_rfl
@[simp] theorem ti_48 : tiOf Tryz.prog 48 = some ⟨3, true, 40, [.nl, .at (.int .i64 0), .at (.int .i64 0)]⟩ := by kernel_rfl
@[simp] theorem tk_48 : tkOf Tryz.prog 48 = .struct [(0, 1), (1, 1), (2, 1)] := by kernel_rfl
@[simp] theorem ti_49 : tiOf Tryz.prog 49 = some ⟨4, true, 64, [.nl, .nl, .at (.int .i64 0), .at (.int .i64 0)]⟩ := by kernel_rfl
@[simp] theorem tk_49 : tkOf Tryz.prog 49 = .struct [(0, 1), (1, 3)] := by kernel_rfl
@[simp] theorem ti_50 : tiOf Tryz.prog 50 = some ⟨4, true, 64, [.nl, .nl, .at (.int .i64 0), .at (.int .i64 0)]⟩ := by kernel_rfl
@[simp] theorem tk_50 : tkOf Tryz.prog 50 = .struct [(0, 1), (1, 3)] := by kernel_rfl
@[simp] theorem ti_51 : tiOf Tryz.prog 51 = some ⟨1, false, 24, [.nl]⟩ := by kernel_rfl
@[simp] theorem tk_51 : tkOf Tryz.prog 51 = .slice 82 := by kernel_rfl
@[simp] theorem ti_52 : tiOf Tryz.prog 52 = some ⟨5, true, 88, [.nl, .nl, .at (.int .i64 0), .at (.int .i64 0), .nl]⟩ := by kernel_rfl
@[simp] theorem tk_52 : tkOf Tryz.prog 52 = .struct [(0, 4), (4, 1)] := by kernel_rfl
@[simp] theorem ti_53 : tiOf Tryz.prog 53 = some ⟨5, true, 88, [.nl, .nl, .at (.int .i64 0), .at (.int .i64 0), .nl]⟩ := by kernel_rfl
@[simp] theorem tk_53 : tkOf Tryz.prog 53 = .struct [(0, 4), (4, 1)] := by kernel_rfl
@[simp] theorem ti_55 : tiOf Tryz.prog 55 = some ⟨1, false, 8, [.at .nilFunc]⟩ := by kernel_rfl
@[simp] theorem ti_56 : tiOf Tryz.prog 56 = some ⟨1, false, 8, [.at .nilFunc]⟩ := by kernel_rfl
@[simp] theorem ti_57 : tiOf Tryz.prog 57 = some ⟨3, true, 40, [.at (.int .i64 0), .at (.int .i64 0), .nl]⟩ := by kernel_rfl
@[simp] theorem tk_57 : tkOf Tryz.prog 57 = .struct [(0, 1), (1, 1), (2, 1)] := by kernel_rfl
@[simp] theorem ti_58 : tiOf Tryz.prog 58 = some ⟨3, true, 40, [.at (.int .i64 0), .at (.int .i64 0), .nl]⟩ := by kernel_rfl
@[simp] theorem tk_58 : tkOf Tryz.prog 58 = .struct [(0, 1), (1, 1), (2, 1)] := by kernel_rfl
@[simp] theorem ti_60 : tiOf Tryz.prog 60 = some ⟨1, false, 8, [.at .nilFunc]⟩ := by kernel_rfl
@[simp] theorem ti_61 : tiOf Tryz.prog 61 = some ⟨1, false, 8, [.at .nilFunc]⟩ := by kernel_rfl
@[simp] theorem ti_62 : tiOf Tryz.prog 62 = some ⟨1, false, 8, [.at .nilFunc]⟩ := by kernel_rfl
@[simp] theorem ti_64 : tiOf Tryz.prog 64 = some ⟨1, false, 8, [.at .nilFunc]⟩ := by kernel_rfl
@[simp] theorem ti_65 : tiOf Tryz.prog 65 = some ⟨1, false, 8, [.at .nilFunc]⟩ := by kernel_rfl
@[simp] theorem ti_66 : tiOf Tryz.prog 66 = some ⟨1, false, 8, [.at .nilFunc]⟩ := by kernel_rfl
@[simp] theorem ti_68 : tiOf Tryz.prog 68 = some ⟨1, false, 8, [.at .nilFunc]⟩ := by kernel_rfl
@[simp] theorem ti_69 : tiOf Tryz.prog 69 = some ⟨1, false, 8, [.at .nilFunc]⟩ := by kernel_rfl
@[simp] theorem ti_70 : tiOf Tryz.prog 70 = some ⟨1, false, 8, [.at .nilFunc]⟩ := by kernel_rfl
@[simp] theorem ti_71 : tiOf Tryz.prog 71 = some ⟨1, false, 8, [.at .nilFunc]⟩ := by kernel_rfl
@[simp] theorem ti_72 : tiOf Tryz.prog 72 = some ⟨1, false, 8, [.at .nilFunc]⟩ := by kernel_rfl
@[simp] theorem ti_73 : tiOf Tryz.prog 73 = some ⟨1, false, 8, [.at .nilFunc]⟩ := by kernel_rfl
@[simp] theorem ti_74 : tiOf Tryz.prog 74 = some ⟨1, false, 8, [.at .nilFunc]⟩ := by kernel_rfl
@[simp] theorem ti_75 : tiOf Tryz.prog 75 = some ⟨2, true, 32, [.at (.int .i64 0), .nl]⟩ := by kernel_rfl
@[simp] theorem tk_75 : tkOf Tryz.prog 75 = .struct [(0, 1), (1, 1)] := by kernel_rfl
@[simp] theorem ti_76 : tiOf Tryz.prog 76 = some ⟨2, true, 32, [.at (.int .i64 0), .nl]⟩ := by kernel_rfl
@[simp] theorem tk_76 : tkOf Tryz.prog 76 = .struct [(0, 1), (1, 1)] := by kernel_rfl
@[simp] theorem ti_77 : tiOf Tryz.prog 77 = some ⟨1, false, 8, [.at .nilFunc]⟩ := by kernel_rfl
@[simp] theorem ti_78 : tiOf Tryz.prog 78 = some ⟨1, false, 8, [.at .nilFunc]⟩ := by kernel_rfl
@[simp] theorem ti_79 : tiOf Tryz.prog 79 = some ⟨1, false, 8, [.at .nilFunc]⟩ := by kernel_rfl
@[simp] theorem ti_80 : tiOf Tryz.prog 80 = some ⟨1, false, 8, [.at (.pointer none)]⟩ := by kernel_rfl
@[simp] theorem ti_81 : tiOf Tryz.prog 81 = some ⟨4, true, 48, [.at (.int .i64 0), .at (.int .i64 0), .at (.int .i64 0), .nl]⟩ := by kernel_rfl
@[simp] theorem tk_81 : tkOf Tryz.prog 81 = .struct [(0, 1), (1, 3)] := by kernel_rfl
@[simp] theorem ti_82 : tiOf Tryz.prog 82 = some ⟨4, true, 48, [.at (.int .i64 0), .at (.int .i64 0), .at (.int .i64 0), .nl]⟩ := by kernel_rfl
@[simp] theorem tk_82 : tkOf Tryz.prog 82 = .struct [(0, 1), (1, 3)] := by kernel_rfl
@[simp] theorem ti_83 : tiOf Tryz.prog 83 = some ⟨1, false, 8, [.at .nilFunc]⟩ := by kernel_rfl
@[simp] theorem ti_85 : tiOf Tryz.prog 85 = some ⟨1, false, 8, [.at .nilFunc]⟩ := by kernel_rfl
@[simp] theorem ti_86 : tiOf Tryz.prog 86 = some ⟨1, false, 8, [.at .nilFunc]⟩ := by kernel_rfl
@[simp] theorem ti_87 : tiOf Tryz.prog 87 = some ⟨1, false, 8, [.at .nilFunc]⟩ := by kernel_rfl
@[simp] theorem ti_88 : tiOf Tryz.prog 88 = some ⟨1, false, 8, [.at .nilFunc]⟩ := by kernel_rfl
@[simp] theorem ti_89 : tiOf Tryz.prog 89 = some ⟨1, false, 8, [.at .nilFunc]⟩ := by kernel_rfl
@[simp] theorem ti_90 : tiOf Tryz.prog 90 = some ⟨1, false, 8, [.at .nilFunc]⟩ := by kernel_rfl
@[simp] theorem ti_91 : tiOf Tryz.prog 91 = some ⟨1, false, 8, [.at .nilFunc]⟩ := by kernel_rfl
@[simp] theorem ti_92 : tiOf Tryz.prog 92 = some ⟨1, false, 24, [.nl]⟩ := by kernel_rfl
@[simp] theorem tk_92 : tkOf Tryz.prog 92 = .slice 22 := by kernel_rfl
@[simp] theorem ti_93 : tiOf Tryz.prog 93 = some ⟨1, false, 8, [.at .nilFunc]⟩ := by kernel_rfl
@[simp] theorem ti_95 : tiOf Tryz.prog 95 = some ⟨1, false, 8, [.at .nilFunc]⟩ := by kernel_rfl
@[simp] theorem ti_97 : tiOf Tryz.prog 97 = some ⟨1, false, 8, [.at .nilFunc]⟩ := by kernel_rfl
@[simp] theorem ti_98 : tiOf Tryz.prog 98 = some ⟨1, false, 24, [.nl]⟩ := by kernel_rfl
@[simp] theorem tk_98 : tkOf Tryz.prog 98 = .slice 9 := by kernel_rfl
@[simp] theorem ti_99 : tiOf Tryz.prog 99 = some ⟨1, false, 8, [.at .nilFunc]⟩ := by kernel_rfl
@[simp] theorem ti_100 : tiOf Tryz.prog 100 = some ⟨1, false, 8, [.at .nilFunc]⟩ := by kernel_rfl
@[simp] theorem ti_101 : tiOf Tryz.prog 101 = some ⟨1, false, 8, [.at .nilFunc]⟩ := by kernel_rfl
@[simp] theorem ti_102 : tiOf Tryz.prog 102 = some ⟨1, false, 24, [.nl]⟩ := by kernel_rfl
@[simp] theorem tk_102 : tkOf Tryz.prog 102 = .slice 35 := by kernel_rfl
@[simp] theorem ti_103 : tiOf Tryz.prog 103 = some ⟨1, false, 8, [.at .nilFunc]⟩ := by kernel_rfl
@[simp] theorem ti_104 : tiOf Tryz.prog 104 = some ⟨1, false, 8, [.at .nilFunc]⟩ := by kernel_rfl
@[simp] theorem ti_105 : tiOf Tryz.prog 105 = some ⟨1, false, 8, [.at .nilFunc]⟩ := by kernel_rfl
@[simp] theorem ti_106 : tiOf Tryz.prog 106 = some ⟨1, false, 8, [.at .nilFunc]⟩ := by kernel_rfl
@[simp] theorem ti_107 : tiOf Tryz.prog 107 = some ⟨1, false, 8, [.at .nilFunc]⟩ := by kernel_rfl
@[simp] theorem ti_108 : tiOf Tryz.prog 108 = some ⟨1, false, 8, [.at .nilFunc]⟩ := by kernel_rfl
@[simp] theorem ti_109 : tiOf Tryz.prog 109 = some ⟨1, false, 8, [.at .nilFunc]⟩ := by kernel_rfl
@[simp] theorem ti_110 : tiOf Tryz.prog 110 = some ⟨1, false, 8, [.at .nilFunc]⟩ := by kernel_rfl
@[simp] theorem ti_111 : tiOf Tryz.prog 111 = some ⟨1, false, 8, [.at .nilFunc]⟩ := by kernel_rfl
@[simp] theorem ti_113 : tiOf Tryz.prog 113 = some ⟨1, false, 8, [.at .nilFunc]⟩ := by kernel_rfl
@[simp] theorem ti_114 : tiOf Tryz.prog 114 = some ⟨1, false, 8, [.at .nilFunc]⟩ := by kernel_rfl
@[simp] theorem ti_116 : tiOf Tryz.prog 116 = some ⟨1, false, 8, [.at .nilFunc]⟩ := by kernel_rfl
@[simp] theorem ti_118 : tiOf Tryz.prog 118 = some ⟨1, false, 8, [.at .nilFunc]⟩ := by kernel_rfl
@[simp] theorem ti_119 : tiOf Tryz.prog 119 = some ⟨1, false, 8, [.at .nilFunc]⟩ := by kernel_rfl
@[simp] theorem ti_120 : tiOf Tryz.prog 120 = some ⟨1, false, 8, [.at .nilFunc]⟩ := by kernel_rfl
@[simp] theorem ti_121 : tiOf Tryz.prog 121 = some ⟨1, false, 8, [.at .nilFunc]⟩ := by kernel_rfl
@[simp] theorem ti_122 : tiOf Tryz.prog 122 = some ⟨4, true, 4, [.at (.bool false), .at (.bool false), .at (.bool false), .at (.bool false)]⟩ := by kernel_rfl
@[simp] theorem tk_122 : tkOf Tryz.prog 122 = .array 4 4 := by kernel_rfl
@[simp] theorem ti_123 : tiOf Tryz.prog 123 = some ⟨1, false, 8, [.at .nilFunc]⟩ := by kernel_rfl
@[simp] theorem ti_124 : tiOf Tryz.prog 124 = some ⟨3, true, 24, [.at (.int .i64 0), .at (.int .i64 0), .at (.int .i64 0)]⟩ := by kernel_rfl
@[simp] theorem tk_124 : tkOf Tryz.prog 124 = .array 3 3 := by kernel_rfl
@[simp] theorem ti_126 : tiOf Tryz.prog 126 = some ⟨1, false, 8, [.at .nilFunc]⟩ := by kernel_rfl
@[simp] theorem ti_128 : tiOf Tryz.prog 128 = some ⟨1, false, 8, [.at .nilFunc]⟩ := by kernel_rfl
@[simp] theorem ti_129 : tiOf Tryz.prog 129 = some ⟨1, false, 8, [.at .nilFunc]⟩ := by kernel_rfl
@[simp] theorem ti_130 : tiOf Tryz.prog 130 = some ⟨1, false, 8, [.at .nilFunc]⟩ := by kernel_rfl
@[simp] theorem ti_131 : tiOf Tryz.prog 131 = some ⟨1, false, 8, [.at .nilFunc]⟩ := by kernel_rfl
@[simp] theorem ti_132 : tiOf Tryz.prog 132 = some ⟨1, false, 8, [.at .nilFunc]⟩ := by kernel_rfl
@[simp] theorem ti_134 : tiOf Tryz.prog 134 = some ⟨1, false, 8, [.at .nilFunc]⟩ := by kernel_rfl
@[simp] theorem ti_135 : tiOf Tryz.prog 135 = some ⟨1, false, 8, [.at .nilFunc]⟩ := by kernel_rfl
@[simp] theorem ti_136 : tiOf Tryz.prog 136 = some ⟨1, false, 8, [.at .nilFunc]⟩ := by kernel_rfl
@[simp] theorem ti_137 : tiOf Tryz.prog 137 = some ⟨1, false, 8, [.at .nilFunc]⟩ := by kernel_rfl
@[simp] theorem ti_138 : tiOf Tryz.prog 138 = some ⟨1, false, 8, [.at .nilFunc]⟩ := by kernel_rfl
@[simp] theorem ti_139 : tiOf Tryz.prog 139 = some ⟨1, false, 8, [.at .nilFunc]⟩ := by kernel_rfl
@[simp] theorem ti_140 : tiOf Tryz.prog 140 = some ⟨1, false, 8, [.at .nilFunc]⟩ := by kernel_rfl
@[simp] theorem ti_141 : tiOf Tryz.prog 141 = some ⟨1, false, 8, [.at .nilFunc]⟩ := by kernel_rfl
@[simp] theorem ti_142 : tiOf Tryz.prog 142 = some ⟨1, false, 8, [.at (.pointer none)]⟩ := by kernel_rfl
@[simp] theorem ti_144 : tiOf Tryz.prog 144 = some ⟨1, false, 8, [.at .nilFunc]⟩ := by kernel_rfl
@[simp] theorem ti_146 : tiOf Tryz.prog 146 = some ⟨1, false, 8, [.at .nilFunc]⟩ := by kernel_rfl
@[simp] theorem ti_148 : tiOf Tryz.prog 148 = some ⟨1, false, 8, [.at .nilFunc]⟩ := by kernel_rfl
@[simp] theorem ti_149 : tiOf Tryz.prog 149 = some ⟨1, false, 8, [.at .nilFunc]⟩ := by kernel_rfl
@[simp] theorem ti_150 : tiOf Tryz.prog 150 = some ⟨1, false, 8, [.at .nilFunc]⟩ := by kernel_rfl
@[simp] theorem ti_151 : tiOf Tryz.prog 151 = some ⟨1, false, 8, [.at .nilFunc]⟩ := by kernel_rfl
@[simp] theorem ti_152 : tiOf Tryz.prog 152 = some ⟨1, false, 16, [.at .nilIface]⟩ := by kernel_rfl
@[simp] theorem tk_152 : tkOf Tryz.prog 152 = .iface := by kernel_rfl
@[simp] theorem ti_153 : tiOf Tryz.prog 153 = some ⟨1, false, 16, [.at .nilIface]⟩ := by kernel_rfl
@[simp] theorem tk_153 : tkOf Tryz.prog 153 = .iface := by kernel_rfl
@[simp] theorem ti_155 : tiOf Tryz.prog 155 = some ⟨1, false, 8, [.at .nilFunc]⟩ := by kernel_rfl
@[simp] theorem ti_156 : tiOf Tryz.prog 156 = some ⟨1, false, 8, [.at .nilFunc]⟩ := by kernel_rfl
@[simp] theorem ti_157 : tiOf Tryz.prog 157 = some ⟨1, false, 8, [.at (.pointer none)]⟩ := by kernel_rfl
@[simp] theorem ti_158 : tiOf Tryz.prog 158 = some ⟨3, true, 24, [.at (.pointer none), .at (.pointer none), .at (.pointer none)]⟩ := by kernel_rfl
@[simp] theorem tk_158 : tkOf Tryz.prog 158 = .array 3 157 := by kernel_rfl
@[simp] theorem ti_159 : tiOf Tryz.prog 159 = some ⟨1, false, 8, [.at .nilFunc]⟩ := by kernel_rfl
@[simp] theorem ti_161 : tiOf Tryz.prog 161 = some ⟨1, false, 8, [.at .nilFunc]⟩ := by kernel_rfl
@[simp] theorem ti_162 : tiOf Tryz.prog 162 = some ⟨1, false, 8, [.at .nilFunc]⟩ := by kernel_rfl
@[simp] theorem ti_163 : tiOf Tryz.prog 163 = some ⟨1, false, 8, [.at .nilFunc]⟩ := by kernel_rfl
@[simp] theorem ti_164 : tiOf Tryz.prog 164 = some ⟨2, true, 24, [.at (.string ByteArray.empty), .at (.bool false)]⟩ := by kernel_rfl
@[simp] theorem tk_164 : tkOf Tryz.prog 164 = .struct [(0, 1), (1, 1)] := by kernel_rfl
@[simp] theorem ti_165 : tiOf Tryz.prog 165 = some ⟨1, false, 24, [.nl]⟩ := by kernel_rfl
@[simp] theorem tk_165 : tkOf Tryz.prog 165 = .slice 164 := by kernel_rfl
@[simp] theorem ti_166 : tiOf Tryz.prog 166 = some ⟨1, false, 8, [.at .nilFunc]⟩ := by kernel_rfl
@[simp] theorem ti_167 : tiOf Tryz.prog 167 = some ⟨1, false, 8, [.at .nilFunc]⟩ := by kernel_rfl
@[simp] theorem ti_168 : tiOf Tryz.prog 168 = some ⟨1, false, 8, [.at .nilFunc]⟩ := by kernel_rfl
@[simp] theorem ti_169 : tiOf Tryz.prog 169 = some ⟨1, false, 24, [.nl]⟩ := by kernel_rfl
@[simp] theorem tk_169 : tkOf Tryz.prog 169 = .slice 25 := by kernel_rfl
@[simp] theorem ti_170 : tiOf Tryz.prog 170 = some ⟨1, false, 8, [.at .nilFunc]⟩ := by kernel_rfl
@[simp] theorem ti_171 : tiOf Tryz.prog 171 = some ⟨1, false, 8, [.at .nilFunc]⟩ := by kernel_rfl
@[simp] theorem ti_172 : tiOf Tryz.prog 172 = some ⟨1, false, 8, [.at .nilFunc]⟩ := by kernel_rfl
@[simp] theorem ti_173 : tiOf Tryz.prog 173 = some ⟨1, false, 8, [.at .nilFunc]⟩ := by kernel_rfl
@[simp] theorem ti_174 : tiOf Tryz.prog 174 = some ⟨1, false, 8, [.at (.pointer none)]⟩ := by kernel_rfl
@[simp] theorem ti_176 : tiOf Tryz.prog 176 = some ⟨1, false, 8, [.at .nilFunc]⟩ := by kernel_rfl
@[simp] theorem ti_177 : tiOf Tryz.prog 177 = some ⟨24, true, 24, [.at (.int .u8 0), .at (.int .u8 0), .at (.int .u8 0), .at (.int .u8 0), .at (.int .u8 0), .at (.int .u8 0), .at (.int .u8 0), .at (.int .u8 0), .at (.int .u8 0), .at (.int .u8 0), .at (.int .u8 0), .at (.int .u8 0), .at (.int .u8 0), .at (.int .u8 0), .at (.int .u8 0), .at (.int .u8 0), .at (.int .u8 0), .at (.int .u8 0), .at (.int .u8 0), .at (.int .u8 0), .at (.int .u8 0), .at (.int .u8 0), .at (.int .u8 0), .at (.int .u8 0)]⟩ := by kernel_rfl
@[simp] theorem tk_177 : tkOf Tryz.prog 177 = .array 24 5 := by kernel_rfl
@[simp] theorem ti_178 : tiOf Tryz.prog 178 = some ⟨1, false, 8, [.at (.int .u64 0)]⟩ := by kernel_rfl
@[simp] theorem tk_178 : tkOf Tryz.prog 178 = .int .u64 := by kernel_rfl
@[simp] theorem ti_179 : tiOf Tryz.prog 179 = some ⟨1, false, 8, [.at .nilFunc]⟩ := by kernel_rfl
@[simp] theorem ti_180 : tiOf Tryz.prog 180 = some ⟨1, false, 8, [.at .nilFunc]⟩ := by kernel_rfl
@[simp] theorem ti_182 : tiOf Tryz.prog 182 = some ⟨1, false, 8, [.at .nilFunc]⟩ := by kernel_rfl
@[simp] theorem ti_183 : tiOf Tryz.prog 183 = some ⟨1, false, 8, [.at .nilFunc]⟩ := by kernel_rfl
@[simp] theorem ti_184 : tiOf Tryz.prog 184 = some ⟨1, false, 8, [.at (.int .u64 0)]⟩ := by kernel_rfl
@[simp] theorem tk_184 : tkOf Tryz.prog 184 = .int .u64 := by kernel_rfl
@[simp] theorem ti_185 : tiOf Tryz.prog 185 = some ⟨1, false, 8, [.at .nilFunc]⟩ := by kernel_rfl
@[simp] theorem ti_186 : tiOf Tryz.prog 186 = some ⟨1, false, 8, [.at .nilFunc]⟩ := by kernel_rfl
@[simp] theorem ti_188 : tiOf Tryz.prog 188 = some ⟨1, false, 8, [.at .nilFunc]⟩ := by kernel_rfl
@[simp] theorem ti_189 : tiOf Tryz.prog 189 = some ⟨1, false, 8, [.at .nilFunc]⟩ := by kernel_rfl
@[simp] theorem ti_190 : tiOf Tryz.prog 190 = some ⟨1, false, 8, [.at .nilFunc]⟩ := by kernel_rfl
@[simp] theorem ti_191 : tiOf Tryz.prog 191 = some ⟨1, false, 8, [.at .nilFunc]⟩ := by kernel_rfl
@[simp] theorem ti_192 : tiOf Tryz.prog 192 = some ⟨1, false, 8, [.at .nilFunc]⟩ := by kernel_rfl
@[simp] theorem ti_193 : tiOf Tryz.prog 193 = some ⟨1, false, 8, [.at .nilFunc]⟩ := by kernel_rfl
@[simp] theorem ti_194 : tiOf Tryz.prog 194 = some ⟨1, false, 8, [.at .nilFunc]⟩ := by kernel_rfl
@[simp] theorem ti_195 : tiOf Tryz.prog 195 = some ⟨20, true, 160, [.at (.int .u64 0), .at (.int .u64 0), .at (.int .u64 0), .at (.int .u64 0), .at (.int .u64 0), .at (.int .u64 0), .at (.int .u64 0), .at (.int .u64 0), .at (.int .u64 0), .at (.int .u64 0), .at (.int .u64 0), .at (.int .u64 0), .at (.int .u64 0), .at (.int .u64 0), .at (.int .u64 0), .at (.int .u64 0), .at (.int .u64 0), .at (.int .u64 0), .at (.int .u64 0), .at (.int .u64 0)]⟩ := by kernel_rfl
@[simp] theorem tk_195 : tkOf Tryz.prog 195 = .array 20 178 := by kernel_rfl
@[simp] theorem ti_196 : tiOf Tryz.prog 196 = some ⟨1, false, 4, [.at (.int .u32 0)]⟩ := by kernel_rfl
@[simp] theorem tk_196 : tkOf Tryz.prog 196 = .int .u32 := by kernel_rfl
@[simp] theorem ti_198 : tiOf Tryz.prog 198 = some ⟨1, false, 8, [.at .nilFunc]⟩ := by kernel_rfl
@[simp] theorem ti_200 : tiOf Tryz.prog 200 = some ⟨1, false, 8, [.at .nilFunc]⟩ := by kernel_rfl
@[simp] theorem ti_201 : tiOf Tryz.prog 201 = some ⟨1, false, 8, [.at (.int .i64 0)]⟩ := by kernel_rfl
@[simp] theorem tk_201 : tkOf Tryz.prog 201 = .int .i64 := by kernel_rfl
@[simp] theorem ti_202 : tiOf Tryz.prog 202 = some ⟨1, false, 8, [.at (.pointer none)]⟩ := by kernel_rfl
@[simp] theorem ti_203 : tiOf Tryz.prog 203 = some ⟨1, false, 8, [.at .nilFunc]⟩ := by kernel_rfl
@[simp] theorem ti_204 : tiOf Tryz.prog 204 = some ⟨1, false, 8, [.at .nilFunc]⟩ := by kernel_rfl
@[simp] theorem ti_206 : tiOf Tryz.prog 206 = some ⟨1, false, 8, [.at .nilFunc]⟩ := by kernel_rfl
@[simp] theorem ti_207 : tiOf Tryz.prog 207 = some ⟨1, false, 8, [.at .nilFunc]⟩ := by kernel_rfl
@[simp] theorem ti_208 : tiOf Tryz.prog 208 = some ⟨1, false, 8, [.at .nilFunc]⟩ := by kernel_rfl
@[simp] theorem ti_209 : tiOf Tryz.prog 209 = some ⟨1, false, 8, [.at .nilFunc]⟩ := by kernel_rfl
@[simp] theorem ti_210 : tiOf Tryz.prog 210 = some ⟨1, false, 8, [.at .nilFunc]⟩ := by kernel_rfl
@[simp] theorem ti_211 : tiOf Tryz.prog 211 = some ⟨3, true, 48, [.at (.string ByteArray.empty), .at (.string ByteArray.empty), .at .nilIface]⟩ := by kernel_rfl
@[simp] theorem tk_211 : tkOf Tryz.prog 211 = .struct [(0, 1), (1, 1), (2, 1)] := by kernel_rfl
@[simp] theorem ti_212 : tiOf Tryz.prog 212 = some ⟨3, true, 48, [.at (.string ByteArray.empty), .at (.string ByteArray.empty), .at .nilIface]⟩ := by kernel_rfl
@[simp] theorem tk_212 : tkOf Tryz.prog 212 = .struct [(0, 1), (1, 1), (2, 1)] := by kernel_rfl
@[simp] theorem ti_213 : tiOf Tryz.prog 213 = some ⟨1, false, 8, [.at .nilFunc]⟩ := by kernel_rfl
@[simp] theorem ti_215 : tiOf Tryz.prog 215 = some ⟨2, true, 2, [.at (.int .u8 0), .at (.int .u8 0)]⟩ := by kernel_rfl
@[simp] theorem tk_215 : tkOf Tryz.prog 215 = .struct [(0, 1), (1, 1)] := by kernel_rfl
@[simp] theorem ti_216 : tiOf Tryz.prog 216 = some ⟨2, true, 2, [.at (.int .u8 0), .at (.int .u8 0)]⟩ := by kernel_rfl
@[simp] theorem tk_216 : tkOf Tryz.prog 216 = .struct [(0, 1), (1, 1)] := by kernel_rfl
@[simp] theorem ti_217 : tiOf Tryz.prog 217 = some ⟨32, true, 32, [.at (.int .u8 0), .at (.int .u8 0), .at (.int .u8 0), .at (.int .u8 0), .at (.int .u8 0), .at (.int .u8 0), .at (.int .u8 0), .at (.int .u8 0), .at (.int .u8 0), .at (.int .u8 0), .at (.int .u8 0), .at (.int .u8 0), .at (.int .u8 0), .at (.int .u8 0), .at (.int .u8 0), .at (.int .u8 0), .at (.int .u8 0), .at (.int .u8 0), .at (.int .u8 0), .at (.int .u8 0), .at (.int .u8 0), .at (.int .u8 0), .at (.int .u8 0), .at (.int .u8 0), .at (.int .u8 0), .at (.int .u8 0), .at (.int .u8 0), .at (.int .u8 0), .at (.int .u8 0), .at (.int .u8 0), .at (.int .u8 0), .at (.int .u8 0)]⟩ := by kernel_rfl
@[simp] theorem tk_217 : tkOf Tryz.prog 217 = .array 16 216 := by kernel_rfl
@[simp] theorem ti_218 : tiOf Tryz.prog 218 = some ⟨1, false, 8, [.at .nilFunc]⟩ := by kernel_rfl
@[simp] theorem ti_219 : tiOf Tryz.prog 219 = some ⟨1, false, 8, [.at .nilFunc]⟩ := by kernel_rfl
@[simp] theorem ti_220 : tiOf Tryz.prog 220 = some ⟨32, true, 32, [.at (.int .u8 0), .at (.int .u8 0), .at (.int .u8 0), .at (.int .u8 0), .at (.int .u8 0), .at (.int .u8 0), .at (.int .u8 0), .at (.int .u8 0), .at (.int .u8 0), .at (.int .u8 0), .at (.int .u8 0), .at (.int .u8 0), .at (.int .u8 0), .at (.int .u8 0), .at (.int .u8 0), .at (.int .u8 0), .at (.int .u8 0), .at (.int .u8 0), .at (.int .u8 0), .at (.int .u8 0), .at (.int .u8 0), .at (.int .u8 0), .at (.int .u8 0), .at (.int .u8 0), .at (.int .u8 0), .at (.int .u8 0), .at (.int .u8 0), .at (.int .u8 0), .at (.int .u8 0), .at (.int .u8 0), .at (.int .u8 0), .at (.int .u8 0)]⟩ := by kernel_rfl
@[simp] theorem tk_220 : tkOf Tryz.prog 220 = .array 32 5 := by kernel_rfl
@[simp] theorem ti_221 : tiOf Tryz.prog 221 = some ⟨64, true, 64, [.at (.int .u8 0), .at (.int .u8 0), .at (.int .u8 0), .at (.int .u8 0), .at (.int .u8 0), .at (.int .u8 0), .at (.int .u8 0), .at (.int .u8 0), .at (.int .u8 0), .at (.int .u8 0), .at (.int .u8 0), .at (.int .u8 0), .at (.int .u8 0), .at (.int .u8 0), .at (.int .u8 0), .at (.int .u8 0), .at (.int .u8 0), .at (.int .u8 0), .at (.int .u8 0), .at (.int .u8 0), .at (.int .u8 0), .at (.int .u8 0), .at (.int .u8 0), .at (.int .u8 0), .at (.int .u8 0), .at (.int .u8 0), .at (.int .u8 0), .at (.int .u8 0), .at (.int .u8 0), .at (.int .u8 0), .at (.int .u8 0), .at (.int .u8 0), .at (.int .u8 0), .at (.int .u8 0), .at (.int .u8 0), .at (.int .u8 0), .at (.int .u8 0), .at (.int .u8 0), .at (.int .u8 0), .at (.int .u8 0), .at (.int .u8 0), .at (.int .u8 0), .at (.int .u8 0), .at (.int .u8 0), .at (.int .u8 0), .at (.int .u8 0), .at (.int .u8 0), .at (.int .u8 0), .at (.int .u8 0), .at (.int .u8 0), .at (.int .u8 0), .at (.int .u8 0), .at (.int .u8 0), .at (.int .u8 0), .at (.int .u8 0), .at (.int .u8 0), .at (.int .u8 0), .at (.int .u8 0), .at (.int .u8 0), .at (.int .u8 0), .at (.int .u8 0), .at (.int .u8 0), .at (.int .u8 0), .at (.int .u8 0)]⟩ := by kernel_rfl
@[simp] theorem tk_221 : tkOf Tryz.prog 221 = .array 64 5 := by kernel_rfl
@[simp] theorem ti_222 : tiOf Tryz.prog 222 = some ⟨1, false, 8, [.at (.pointer none)]⟩ := by kernel_rfl
@[simp] theorem ti_223 : tiOf Tryz.prog 223 = some ⟨1, false, 8, [.at (.pointer none)]⟩ := by kernel_rfl
@[simp] theorem ti_224 : tiOf Tryz.prog 224 = some ⟨1, true, 16, [.at (.string ByteArray.empty)]⟩ := by kernel_rfl
@[simp] theorem tk_224 : tkOf Tryz.prog 224 = .struct [(0, 1)] := by kernel_rfl
@[simp] theorem ti_225 : tiOf Tryz.prog 225 = some ⟨1, true, 16, [.at (.string ByteArray.empty)]⟩ := by kernel_rfl
@[simp] theorem tk_225 : tkOf Tryz.prog 225 = .struct [(0, 1)] := by kernel_rfl
@[simp] theorem ti_226 : tiOf Tryz.prog 226 = some ⟨1, false, 8, [.at .nilFunc]⟩ := by kernel_rfl
@[simp] theorem ti_227 : tiOf Tryz.prog 227 = some ⟨4, true, 40, [.at (.pointer none), .at (.pointer none), .at (.pointer none), .at (.string ByteArray.empty)]⟩ := by kernel_rfl
@[simp] theorem tk_227 : tkOf Tryz.prog 227 = .struct [(0, 1), (1, 1), (2, 1), (3, 1)] := by kernel_rfl
@[simp] theorem ti_228 : tiOf Tryz.prog 228 = some ⟨4, true, 40, [.at (.pointer none), .at (.pointer none), .at (.pointer none), .at (.string ByteArray.empty)]⟩ := by kernel_rfl
@[simp] theorem tk_228 : tkOf Tryz.prog 228 = .struct [(0, 1), (1, 1), (2, 1), (3, 1)] := by kernel_rfl
@[simp] theorem ti_229 : tiOf Tryz.prog 229 = some ⟨0, true, 0, []⟩ := by kernel_rfl
@[simp] theorem tk_229 : tkOf Tryz.prog 229 = .array 0 16 := by kernel_rfl
@[simp] theorem ti_230 : tiOf Tryz.prog 230 = some ⟨0, true, 0, []⟩ := by kernel_rfl
@[simp] theorem tk_230 : tkOf Tryz.prog 230 = .struct [(0, 0)] := by kernel_rfl
@[simp] theorem ti_231 : tiOf Tryz.prog 231 = some ⟨0, true, 0, []⟩ := by kernel_rfl
@[simp] theorem tk_231 : tkOf Tryz.prog 231 = .struct [(0, 0)] := by kernel_rfl
@[simp] theorem ti_232 : tiOf Tryz.prog 232 = some ⟨1, false, 8, [.at .nilFunc]⟩ := by kernel_rfl
@[simp] theorem ti_233 : tiOf Tryz.prog 233 = some ⟨1, false, 1, [.at (.int .u8 0)]⟩ := by kernel_rfl
@[simp] theorem tk_233 : tkOf Tryz.prog 233 = .int .u8 := by kernel_rfl
@[simp] theorem ti_234 : tiOf Tryz.prog 234 = some ⟨1, false, 1, [.at (.int .u8 0)]⟩ := by kernel_rfl
@[simp] theorem tk_234 : tkOf Tryz.prog 234 = .int .u8 := by kernel_rfl
@[simp] theorem ti_235 : tiOf Tryz.prog 235 = some ⟨1, false, 8, [.at .nilFunc]⟩ := by kernel_rfl
@[simp] theorem ti_236 : tiOf Tryz.prog 236 = some ⟨1, false, 4, [.at (.int .i32 0)]⟩ := by kernel_rfl
@[simp] theorem tk_236 : tkOf Tryz.prog 236 = .int .i32 := by kernel_rfl
@[simp] theorem ti_237 : tiOf Tryz.prog 237 = some ⟨1, false, 4, [.at (.int .i32 0)]⟩ := by kernel_rfl
@[simp] theorem tk_237 : tkOf Tryz.prog 237 = .int .i32 := by kernel_rfl
@[simp] theorem ti_238 : tiOf Tryz.prog 238 = some ⟨11, true, 48, [.at (.int .u64 0), .at (.int .u64 0), .at (.int .u32 0), .at (.int .u8 0), .at (.int .u8 0), .at (.int .u8 0), .at (.int .u8 0), .at .nilFunc, .at (.pointer none), .at (.int .i32 0), .at (.int .i32 0)]⟩ := by kernel_rfl
@[simp] theorem tk_238 : tkOf Tryz.prog 238 = .struct [(0, 1), (1, 1), (2, 1), (3, 1), (4, 1), (5, 1), (6, 1), (7, 1), (8, 1), (9, 1), (10, 1)] := by kernel_rfl
@[simp] theorem ti_239 : tiOf Tryz.prog 239 = some ⟨11, true, 48, [.at (.int .u64 0), .at (.int .u64 0), .at (.int .u32 0), .at (.int .u8 0), .at (.int .u8 0), .at (.int .u8 0), .at (.int .u8 0), .at .nilFunc, .at (.pointer none), .at (.int .i32 0), .at (.int .i32 0)]⟩ := by kernel_rfl
@[simp] theorem tk_239 : tkOf Tryz.prog 239 = .struct [(0, 1), (1, 1), (2, 1), (3, 1), (4, 1), (5, 1), (6, 1), (7, 1), (8, 1), (9, 1), (10, 1)] := by kernel_rfl
@[simp] theorem ti_240 : tiOf Tryz.prog 240 = some ⟨1, false, 8, [.at (.pointer none)]⟩ := by kernel_rfl
end Go.Proofs.YtallmebpmoaopaaGreatDoor.E
