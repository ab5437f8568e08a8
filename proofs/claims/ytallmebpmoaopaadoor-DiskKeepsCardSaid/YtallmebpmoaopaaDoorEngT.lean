/- EngT: the types of the program, as the abstract machine asks for them. Printed by types.py. -/
import Derived.Test.YtallmebpmoaopaaDoorProg
import Derived.Test.YtallmebpmoaopaaDoorX1
namespace Go.Proofs.YtallmebpmoaopaaDoor.E
open Go.RowKit Go.Proofs
set_option maxRecDepth 100000
@[simp] theorem ti_1 : tiOf Tryd.prog 1 = some ⟨1, false, 8, [.at .nilFunc]⟩ := by kernel_rfl
@[simp] theorem ti_2 : tiOf Tryd.prog 2 = some ⟨1, false, 8, [.at (.int .i64 0)]⟩ := by kernel_rfl
@[simp] theorem tk_2 : tkOf Tryd.prog 2 = .int .i64 := by kernel_rfl
@[simp] theorem ti_3 : tiOf Tryd.prog 3 = some ⟨1, false, 8, [.at (.int .i64 0)]⟩ := by kernel_rfl
@[simp] theorem tk_3 : tkOf Tryd.prog 3 = .int .i64 := by kernel_rfl
@[simp] theorem ti_4 : tiOf Tryd.prog 4 = some ⟨1, false, 1, [.at (.bool false)]⟩ := by kernel_rfl
@[simp] theorem tk_4 : tkOf Tryd.prog 4 = .bool := by kernel_rfl
@[simp] theorem ti_5 : tiOf Tryd.prog 5 = some ⟨1, false, 1, [.at (.int .u8 0)]⟩ := by kernel_rfl
@[simp] theorem tk_5 : tkOf Tryd.prog 5 = .int .u8 := by kernel_rfl
@[simp] theorem ti_6 : tiOf Tryd.prog 6 = some ⟨1, false, 1, [.at (.int .u8 0)]⟩ := by kernel_rfl
@[simp] theorem tk_6 : tkOf Tryd.prog 6 = .int .u8 := by kernel_rfl
@[simp] theorem ti_7 : tiOf Tryd.prog 7 = some ⟨4, true, 24, [.at (.int .i64 0), .at (.int .i64 0), .at (.bool false), .at (.int .u8 0)]⟩ := by kernel_rfl
@[simp] theorem tk_7 : tkOf Tryd.prog 7 = .struct [(0, 1), (1, 1), (2, 1), (3, 1)] := by kernel_rfl
@[simp] theorem ti_8 : tiOf Tryd.prog 8 = some ⟨4, true, 24, [.at (.int .i64 0), .at (.int .i64 0), .at (.bool false), .at (.int .u8 0)]⟩ := by kernel_rfl
@[simp] theorem tk_8 : tkOf Tryd.prog 8 = .struct [(0, 1), (1, 1), (2, 1), (3, 1)] := by kernel_rfl
@[simp] theorem ti_9 : tiOf Tryd.prog 9 = some ⟨1, false, 16, [.at (.string ByteArray.empty)]⟩ := by kernel_rfl
@[simp] theorem tk_9 : tkOf Tryd.prog 9 = .string := by kernel_rfl
@[simp] theorem ti_10 : tiOf Tryd.prog 10 = some ⟨1, false, 16, [.at (.string ByteArray.empty)]⟩ := by kernel_rfl
@[simp] theorem tk_10 : tkOf Tryd.prog 10 = .string := by kernel_rfl
@[simp] theorem ti_11 : tiOf Tryd.prog 11 = some ⟨1, false, 16, [.at (.string ByteArray.empty)]⟩ := by kernel_rfl
@[simp] theorem tk_11 : tkOf Tryd.prog 11 = .string := by kernel_rfl
@[simp] theorem ti_12 : tiOf Tryd.prog 12 = some ⟨1, false, 8, [.at (.int .u64 0)]⟩ := by kernel_rfl
@[simp] theorem tk_12 : tkOf Tryd.prog 12 = .int .u64 := by kernel_rfl
@[simp] theorem ti_13 : tiOf Tryd.prog 13 = some ⟨2, true, 24, [.at (.string ByteArray.empty), .at (.int .u64 0)]⟩ := by kernel_rfl
@[simp] theorem tk_13 : tkOf Tryd.prog 13 = .struct [(0, 1), (1, 1)] := by kernel_rfl
@[simp] theorem ti_14 : tiOf Tryd.prog 14 = some ⟨2, true, 24, [.at (.string ByteArray.empty), .at (.int .u64 0)]⟩ := by kernel_rfl
@[simp] theorem tk_14 : tkOf Tryd.prog 14 = .struct [(0, 1), (1, 1)] := by kernel_rfl
@[simp] theorem ti_15 : tiOf Tryd.prog 15 = some ⟨1, false, 8, [.at (.pointer none)]⟩ := by kernel_rfl
@[simp] theorem ti_16 : tiOf Tryd.prog 16 = some ⟨1, false, 8, [.at (.pointer none)]⟩ := by kernel_rfl
@[simp] theorem ti_17 : tiOf Tryd.prog 17 = some ⟨1, false, 8, [.at (.pointer none)]⟩ := by kernel_rfl
@[simp] theorem ti_18 : tiOf Tryd.prog 18 = some ⟨1, true, 8, [.at (.pointer none)]⟩ := by kernel_rfl
@[simp] theorem tk_18 : tkOf Tryd.prog 18 = .struct [(0, 1)] := by kernel_rfl
@[simp] theorem ti_19 : tiOf Tryd.prog 19 = some ⟨1, true, 8, [.at (.pointer none)]⟩ := by kernel_rfl
@[simp] theorem tk_19 : tkOf Tryd.prog 19 = .struct [(0, 1)] := by kernel_rfl
@[simp] theorem ti_20 : tiOf Tryd.prog 20 = some ⟨1, false, 16, [.at .nilIface]⟩ := by kernel_rfl
@[simp] theorem tk_20 : tkOf Tryd.prog 20 = .iface := by kernel_rfl
@[simp] theorem ti_21 : tiOf Tryd.prog 21 = some ⟨1, false, 4, [.at (.int .i32 0)]⟩ := by kernel_rfl
@[simp] theorem tk_21 : tkOf Tryd.prog 21 = .int .i32 := by kernel_rfl
@[simp] theorem ti_22 : tiOf Tryd.prog 22 = some ⟨1, false, 24, [.nl]⟩ := by kernel_rfl
@[simp] theorem tk_22 : tkOf Tryd.prog 22 = .slice 3 := by kernel_rfl
@[simp] theorem ti_23 : tiOf Tryd.prog 23 = some ⟨5, true, 56, [.at (.int .i64 0), .at (.int .i64 0), .at (.int .i64 0), .at (.int .i64 0), .nl]⟩ := by kernel_rfl
@[simp] theorem tk_23 : tkOf Tryd.prog 23 = .struct [(0, 1), (1, 1), (2, 1), (3, 1), (4, 1)] := by kernel_rfl
@[simp] theorem ti_24 : tiOf Tryd.prog 24 = some ⟨5, true, 56, [.at (.int .i64 0), .at (.int .i64 0), .at (.int .i64 0), .at (.int .i64 0), .nl]⟩ := by kernel_rfl
@[simp] theorem tk_24 : tkOf Tryd.prog 24 = .struct [(0, 1), (1, 1), (2, 1), (3, 1), (4, 1)] := by kernel_rfl
@[simp] theorem ti_25 : tiOf Tryd.prog 25 = some ⟨1, false, 8, [.at (.int .i64 0)]⟩ := by kernel_rfl
@[simp] theorem tk_25 : tkOf Tryd.prog 25 = .int .i64 := by kernel_rfl
@[simp] theorem ti_27 : tiOf Tryd.prog 27 = some ⟨1, false, 8, [.at .nilFunc]⟩ := by kernel_rfl
@[simp] theorem ti_28 : tiOf Tryd.prog 28 = some ⟨1, false, 8, [.at .nilFunc]⟩ := by kernel_rfl
@[simp] theorem ti_29 : tiOf Tryd.prog 29 = some ⟨1, false, 8, [.at .nilFunc]⟩ := by kernel_rfl
@[simp] theorem ti_31 : tiOf Tryd.prog 31 = some ⟨1, false, 8, [.at .nilFunc]⟩ := by kernel_rfl
@[simp] theorem ti_32 : tiOf Tryd.prog 32 = some ⟨1, false, 8, [.at .nilFunc]⟩ := by kernel_rfl
@[simp] theorem ti_33 : tiOf Tryd.prog 33 = some ⟨1, false, 8, [.at .nilFunc]⟩ := by kernel_rfl
@[simp] theorem ti_34 : tiOf Tryd.prog 34 = some ⟨1, false, 8, [.at .nilFunc]⟩ := by kernel_rfl
@[simp] theorem ti_35 : tiOf Tryd.prog 35 = some ⟨7, true, 72, [.at (.int .i64 0), .at (.int .i64 0), .at (.int .i64 0), .at (.int .i64 0), .at (.int .i64 0), .at (.int .i64 0), .nl]⟩ := by kernel_rfl
@[simp] theorem tk_35 : tkOf Tryd.prog 35 = .struct [(0, 1), (1, 1), (2, 5)] := by kernel_rfl
@[simp] theorem ti_36 : tiOf Tryd.prog 36 = some ⟨7, true, 72, [.at (.int .i64 0), .at (.int .i64 0), .at (.int .i64 0), .at (.int .i64 0), .at (.int .i64 0), .at (.int .i64 0), .nl]⟩ := by kernel_rfl
@[simp] theorem tk_36 : tkOf Tryd.prog 36 = .struct [(0, 1), (1, 1), (2, 5)] := by kernel_rfl
@[simp] theorem ti_37 : tiOf Tryd.prog 37 = some ⟨1, false, 8, [.at .nilFunc]⟩ := by kernel_rfl
@[simp] theorem ti_38 : tiOf Tryd.prog 38 = some ⟨1, false, 8, [.at .nilFunc]⟩ := by kernel_rfl
@[simp] theorem ti_40 : tiOf Tryd.prog 40 = some ⟨1, false, 8, [.at .nilFunc]⟩ := by kernel_rfl
@[simp] theorem ti_41 : tiOf Tryd.prog 41 = some ⟨1, false, 8, [.at .nilFunc]⟩ := by kernel_rfl
@[simp] theorem ti_42 : tiOf Tryd.prog 42 = some ⟨1, false, 8, [.at .nilFunc]⟩ := by kernel_rfl
@[simp] theorem ti_43 : tiOf Tryd.prog 43 = some ⟨1, false, 24, [.nl]⟩ := by kernel_rfl
@[simp] theorem tk_43 : tkOf Tryd.prog 43 = .slice 36 := by kernel_rfl
@[simp] theorem ti_44 : tiOf Tryd.prog 44 = some ⟨1, false, 24, [.nl]⟩ := by kernel_rfl
@[simp] theorem tk_44 : tkOf Tryd.prog 44 = .slice 5 := by kernel_rfl
@[simp] theorem ti_45 : tiOf Tryd.prog 45 = some ⟨2, true, 48, [.nl, .nl]⟩ := by kernel_rfl
@[simp] theorem tk_45 : tkOf Tryd.prog 45 = .struct [(0, 1), (1, 1)] := by kernel_rfl
@[simp] theorem ti_46 : tiOf Tryd.prog 46 = some ⟨2, true, 48, [.nl, .nl]⟩ := by kernel_rfl
@[simp] theorem tk_46 : tkOf Tryd.prog 46 = .struct [(0, 1), (1, 1)] := by kernel_rfl
@[simp] theorem ti_48 : tiOf Tryd.prog 48 = some ⟨1, false, 8, [.at .nilFunc]⟩ := by kernel_rfl
@[simp] theorem ti_49 : tiOf Tryd.prog 49 = some ⟨1, false, 8, [.at .nilFunc]⟩ := by kernel_rfl
@[simp] theorem ti_50 : tiOf Tryd.prog 50 = some ⟨1, false, 8, [.at .nilFunc]⟩ := by kernel_rfl
@[simp] theorem ti_51 : tiOf Tryd.prog 51 = some ⟨1, false, 8, [.at .nilFunc]⟩ := by kernel_rfl
@[simp] theorem ti_52 : tiOf Tryd.prog 52 = some ⟨1, false, 8, [.at .nilFunc]⟩ := by kernel_rfl
@[simp] theorem ti_54 : tiOf Tryd.prog 54 = some ⟨1, false, 8, [.at .nilFunc]⟩ := by kernel_rfl
@[simp] theorem ti_55 : tiOf Tryd.prog 55 = some ⟨1, false, 8, [.at .nilFunc]⟩ := by kernel_rfl
@[simp] theorem ti_56 : tiOf Tryd.prog 56 = some ⟨1, false, 8, [.at .nilFunc]⟩ := by kernel_rfl
@[simp] theorem ti_57 : tiOf Tryd.prog 57 = some ⟨1, false, 8, [.at .nilFunc]⟩ := by kernel_rfl
@[simp] theorem ti_58 : tiOf Tryd.prog 58 = some ⟨1, false, 8, [.at .nilFunc]⟩ := by kernel_rfl
@[simp] theorem ti_59 : tiOf Tryd.prog 59 = some ⟨1, false, 24, [.nl]⟩ := by kernel_rfl
@[simp] theorem tk_59 : tkOf Tryd.prog 59 = .slice 9 := by kernel_rfl
@[simp] theorem ti_60 : tiOf Tryd.prog 60 = some ⟨1, false, 8, [.at .nilFunc]⟩ := by kernel_rfl
@[simp] theorem ti_61 : tiOf Tryd.prog 61 = some ⟨4, true, 4, [.at (.bool false), .at (.bool false), .at (.bool false), .at (.bool false)]⟩ := by kernel_rfl
@[simp] theorem tk_61 : tkOf Tryd.prog 61 = .array 4 4 := by kernel_rfl
@[simp] theorem ti_62 : tiOf Tryd.prog 62 = some ⟨1, false, 8, [.at .nilFunc]⟩ := by kernel_rfl
@[simp] theorem ti_63 : tiOf Tryd.prog 63 = some ⟨3, true, 24, [.at (.int .i64 0), .at (.int .i64 0), .at (.int .i64 0)]⟩ := by kernel_rfl
@[simp] theorem tk_63 : tkOf Tryd.prog 63 = .array 3 3 := by kernel_rfl
@[simp] theorem ti_64 : tiOf Tryd.prog 64 = some ⟨1, false, 8, [.at .nilFunc]⟩ := by kernel_rfl
@[simp] theorem ti_65 : tiOf Tryd.prog 65 = some ⟨1, false, 8, [.at .nilFunc]⟩ := by kernel_rfl
@[simp] theorem ti_66 : tiOf Tryd.prog 66 = some ⟨1, false, 8, [.at .nilFunc]⟩ := by kernel_rfl
@[simp] theorem ti_67 : tiOf Tryd.prog 67 = some ⟨1, false, 8, [.at .nilFunc]⟩ := by kernel_rfl
@[simp] theorem ti_68 : tiOf Tryd.prog 68 = some ⟨1, false, 16, [.at .nilIface]⟩ := by kernel_rfl
@[simp] theorem tk_68 : tkOf Tryd.prog 68 = .iface := by kernel_rfl
@[simp] theorem ti_69 : tiOf Tryd.prog 69 = some ⟨1, false, 16, [.at .nilIface]⟩ := by kernel_rfl
@[simp] theorem tk_69 : tkOf Tryd.prog 69 = .iface := by kernel_rfl
@[simp] theorem ti_71 : tiOf Tryd.prog 71 = some ⟨1, false, 8, [.at .nilFunc]⟩ := by kernel_rfl
@[simp] theorem ti_72 : tiOf Tryd.prog 72 = some ⟨1, false, 8, [.at (.pointer none)]⟩ := by kernel_rfl
@[simp] theorem ti_73 : tiOf Tryd.prog 73 = some ⟨3, true, 24, [.at (.pointer none), .at (.pointer none), .at (.pointer none)]⟩ := by kernel_rfl
@[simp] theorem tk_73 : tkOf Tryd.prog 73 = .array 3 72 := by kernel_rfl
@[simp] theorem ti_74 : tiOf Tryd.prog 74 = some ⟨1, false, 8, [.at .nilFunc]⟩ := by kernel_rfl
@[simp] theorem ti_75 : tiOf Tryd.prog 75 = some ⟨2, true, 24, [.at (.string ByteArray.empty), .at (.bool false)]⟩ := by kernel_rfl
@[simp] theorem tk_75 : tkOf Tryd.prog 75 = .struct [(0, 1), (1, 1)] := by kernel_rfl
@[simp] theorem ti_76 : tiOf Tryd.prog 76 = some ⟨1, false, 24, [.nl]⟩ := by kernel_rfl
@[simp] theorem tk_76 : tkOf Tryd.prog 76 = .slice 75 := by kernel_rfl
@[simp] theorem ti_77 : tiOf Tryd.prog 77 = some ⟨1, false, 8, [.at .nilFunc]⟩ := by kernel_rfl
@[simp] theorem ti_78 : tiOf Tryd.prog 78 = some ⟨1, false, 8, [.at .nilFunc]⟩ := by kernel_rfl
@[simp] theorem ti_80 : tiOf Tryd.prog 80 = some ⟨1, false, 8, [.at .nilFunc]⟩ := by kernel_rfl
@[simp] theorem ti_81 : tiOf Tryd.prog 81 = some ⟨1, false, 8, [.at .nilFunc]⟩ := by kernel_rfl
@[simp] theorem ti_83 : tiOf Tryd.prog 83 = some ⟨1, false, 8, [.at .nilFunc]⟩ := by kernel_rfl
@[simp] theorem ti_85 : tiOf Tryd.prog 85 = some ⟨1, false, 8, [.at .nilFunc]⟩ := by kernel_rfl
@[simp] theorem ti_86 : tiOf Tryd.prog 86 = some ⟨1, false, 8, [.at .nilFunc]⟩ := by kernel_rfl
@[simp] theorem ti_87 : tiOf Tryd.prog 87 = some ⟨1, false, 8, [.at .nilFunc]⟩ := by kernel_rfl
@[simp] theorem ti_89 : tiOf Tryd.prog 89 = some ⟨1, false, 8, [.at .nilFunc]⟩ := by kernel_rfl
@[simp] theorem ti_90 : tiOf Tryd.prog 90 = some ⟨1, false, 8, [.at .nilFunc]⟩ := by kernel_rfl
@[simp] theorem ti_91 : tiOf Tryd.prog 91 = some ⟨1, false, 8, [.at .nilFunc]⟩ := by kernel_rfl
@[simp] theorem ti_92 : tiOf Tryd.prog 92 = some ⟨1, false, 8, [.at .nilFunc]⟩ := by kernel_rfl
@[simp] theorem ti_93 : tiOf Tryd.prog 93 = some ⟨1, false, 8, [.at .nilFunc]⟩ := by kernel_rfl
@[simp] theorem ti_94 : tiOf Tryd.prog 94 = some ⟨1, false, 8, [.at .nilFunc]⟩ := by kernel_rfl
@[simp] theorem ti_95 : tiOf Tryd.prog 95 = some ⟨1, false, 8, [.at .nilFunc]⟩ := by kernel_rfl
@[simp] theorem ti_97 : tiOf Tryd.prog 97 = some ⟨1, false, 8, [.at .nilFunc]⟩ := by kernel_rfl
@[simp] theorem ti_98 : tiOf Tryd.prog 98 = some ⟨1, false, 24, [.nl]⟩ := by kernel_rfl
@[simp] theorem tk_98 : tkOf Tryd.prog 98 = .slice 43 := by kernel_rfl
@[simp] theorem ti_99 : tiOf Tryd.prog 99 = some ⟨1, false, 8, [.at .nilFunc]⟩ := by kernel_rfl
@[simp] theorem ti_100 : tiOf Tryd.prog 100 = some ⟨1, false, 8, [.at .nilFunc]⟩ := by kernel_rfl
@[simp] theorem ti_101 : tiOf Tryd.prog 101 = some ⟨1, false, 8, [.at .nilFunc]⟩ := by kernel_rfl
@[simp] theorem ti_102 : tiOf Tryd.prog 102 = some ⟨1, false, 8, [.at .nilFunc]⟩ := by kernel_rfl
@[simp] theorem ti_103 : tiOf Tryd.prog 103 = some ⟨1, false, 24, [.nl]⟩ := by kernel_rfl
@[simp] theorem tk_103 : tkOf Tryd.prog 103 = .slice 22 := by kernel_rfl
@[simp] theorem ti_104 : tiOf Tryd.prog 104 = some ⟨1, false, 8, [.at .nilFunc]⟩ := by kernel_rfl
@[simp] theorem ti_105 : tiOf Tryd.prog 105 = some ⟨1, false, 24, [.nl]⟩ := by kernel_rfl
@[simp] theorem tk_105 : tkOf Tryd.prog 105 = .slice 44 := by kernel_rfl
@[simp] theorem ti_106 : tiOf Tryd.prog 106 = some ⟨1, false, 8, [.at .nilFunc]⟩ := by kernel_rfl
@[simp] theorem ti_107 : tiOf Tryd.prog 107 = some ⟨1, false, 8, [.at .nilFunc]⟩ := by kernel_rfl
@[simp] theorem ti_108 : tiOf Tryd.prog 108 = some ⟨1, false, 8, [.at (.int .i64 0)]⟩ := by kernel_rfl
@[simp] theorem tk_108 : tkOf Tryd.prog 108 = .int .i64 := by kernel_rfl
@[simp] theorem ti_109 : tiOf Tryd.prog 109 = some ⟨1, false, 8, [.at (.pointer none)]⟩ := by kernel_rfl
@[simp] theorem ti_110 : tiOf Tryd.prog 110 = some ⟨1, false, 8, [.at .nilFunc]⟩ := by kernel_rfl
@[simp] theorem ti_111 : tiOf Tryd.prog 111 = some ⟨1, false, 8, [.at .nilFunc]⟩ := by kernel_rfl
@[simp] theorem ti_112 : tiOf Tryd.prog 112 = some ⟨1, false, 8, [.at (.int .u64 0)]⟩ := by kernel_rfl
@[simp] theorem tk_112 : tkOf Tryd.prog 112 = .int .u64 := by kernel_rfl
@[simp] theorem ti_114 : tiOf Tryd.prog 114 = some ⟨1, false, 8, [.at .nilFunc]⟩ := by kernel_rfl
@[simp] theorem ti_115 : tiOf Tryd.prog 115 = some ⟨1, false, 8, [.at (.int .u64 0)]⟩ := by kernel_rfl
@[simp] theorem tk_115 : tkOf Tryd.prog 115 = .int .u64 := by kernel_rfl
@[simp] theorem ti_116 : tiOf Tryd.prog 116 = some ⟨24, true, 24, [.at (.int .u8 0), .at (.int .u8 0), .at (.int .u8 0), .at (.int .u8 0), .at (.int .u8 0), .at (.int .u8 0), .at (.int .u8 0), .at (.int .u8 0), .at (.int .u8 0), .at (.int .u8 0), .at (.int .u8 0), .at (.int .u8 0), .at (.int .u8 0), .at (.int .u8 0), .at (.int .u8 0), .at (.int .u8 0), .at (.int .u8 0), .at (.int .u8 0), .at (.int .u8 0), .at (.int .u8 0), .at (.int .u8 0), .at (.int .u8 0), .at (.int .u8 0), .at (.int .u8 0)]⟩ := by kernel_rfl
@[simp] theorem tk_116 : tkOf Tryd.prog 116 = .array 24 5 := by kernel_rfl
@[simp] theorem ti_117 : tiOf Tryd.prog 117 = some ⟨1, false, 8, [.at .nilFunc]⟩ := by kernel_rfl
@[simp] theorem ti_118 : tiOf Tryd.prog 118 = some ⟨1, false, 8, [.at .nilFunc]⟩ := by kernel_rfl
@[simp] theorem ti_120 : tiOf Tryd.prog 120 = some ⟨1, false, 8, [.at .nilFunc]⟩ := by kernel_rfl
@[simp] theorem ti_121 : tiOf Tryd.prog 121 = some ⟨1, false, 8, [.at .nilFunc]⟩ := by kernel_rfl
@[simp] theorem ti_122 : tiOf Tryd.prog 122 = some ⟨1, false, 8, [.at .nilFunc]⟩ := by kernel_rfl
@[simp] theorem ti_124 : tiOf Tryd.prog 124 = some ⟨1, false, 8, [.at .nilFunc]⟩ := by kernel_rfl
@[simp] theorem ti_125 : tiOf Tryd.prog 125 = some ⟨1, false, 8, [.at .nilFunc]⟩ := by kernel_rfl
@[simp] theorem ti_126 : tiOf Tryd.prog 126 = some ⟨3, true, 48, [.at (.string ByteArray.empty), .at (.string ByteArray.empty), .at .nilIface]⟩ := by kernel_rfl
@[simp] theorem tk_126 : tkOf Tryd.prog 126 = .struct [(0, 1), (1, 1), (2, 1)] := by kernel_rfl
@[simp] theorem ti_127 : tiOf Tryd.prog 127 = some ⟨3, true, 48, [.at (.string ByteArray.empty), .at (.string ByteArray.empty), .at .nilIface]⟩ := by kernel_rfl
@[simp] theorem tk_127 : tkOf Tryd.prog 127 = .struct [(0, 1), (1, 1), (2, 1)] := by kernel_rfl
@[simp] theorem ti_128 : tiOf Tryd.prog 128 = some ⟨1, false, 8, [.at .nilFunc]⟩ := by kernel_rfl
@[simp] theorem ti_129 : tiOf Tryd.prog 129 = some ⟨1, false, 8, [.at .nilFunc]⟩ := by kernel_rfl
@[simp] theorem ti_130 : tiOf Tryd.prog 130 = some ⟨1, false, 8, [.at .nilFunc]⟩ := by kernel_rfl
@[simp] theorem ti_131 : tiOf Tryd.prog 131 = some ⟨1, false, 8, [.at .nilFunc]⟩ := by kernel_rfl
@[simp] theorem ti_132 : tiOf Tryd.prog 132 = some ⟨20, true, 160, [.at (.int .u64 0), .at (.int .u64 0), .at (.int .u64 0), .at (.int .u64 0), .at (.int .u64 0), .at (.int .u64 0), .at (.int .u64 0), .at (.int .u64 0), .at (.int .u64 0), .at (.int .u64 0), .at (.int .u64 0), .at (.int .u64 0), .at (.int .u64 0), .at (.int .u64 0), .at (.int .u64 0), .at (.int .u64 0), .at (.int .u64 0), .at (.int .u64 0), .at (.int .u64 0), .at (.int .u64 0)]⟩ := by kernel_rfl
@[simp] theorem tk_132 : tkOf Tryd.prog 132 = .array 20 112 := by kernel_rfl
@[simp] theorem ti_133 : tiOf Tryd.prog 133 = some ⟨1, false, 4, [.at (.int .u32 0)]⟩ := by kernel_rfl
@[simp] theorem tk_133 : tkOf Tryd.prog 133 = .int .u32 := by kernel_rfl
@[simp] theorem ti_135 : tiOf Tryd.prog 135 = some ⟨1, false, 8, [.at .nilFunc]⟩ := by kernel_rfl
@[simp] theorem ti_136 : tiOf Tryd.prog 136 = some ⟨1, false, 8, [.at .nilFunc]⟩ := by kernel_rfl
@[simp] theorem ti_138 : tiOf Tryd.prog 138 = some ⟨1, false, 8, [.at .nilFunc]⟩ := by kernel_rfl
@[simp] theorem ti_139 : tiOf Tryd.prog 139 = some ⟨1, false, 8, [.at (.pointer none)]⟩ := by kernel_rfl
@[simp] theorem ti_140 : tiOf Tryd.prog 140 = some ⟨1, false, 8, [.at (.pointer none)]⟩ := by kernel_rfl
@[simp] theorem ti_141 : tiOf Tryd.prog 141 = some ⟨1, true, 16, [.at (.string ByteArray.empty)]⟩ := by kernel_rfl
@[simp] theorem tk_141 : tkOf Tryd.prog 141 = .struct [(0, 1)] := by kernel_rfl
@[simp] theorem ti_142 : tiOf Tryd.prog 142 = some ⟨1, true, 16, [.at (.string ByteArray.empty)]⟩ := by kernel_rfl
@[simp] theorem tk_142 : tkOf Tryd.prog 142 = .struct [(0, 1)] := by kernel_rfl
@[simp] theorem ti_143 : tiOf Tryd.prog 143 = some ⟨1, false, 8, [.at .nilFunc]⟩ := by kernel_rfl
@[simp] theorem ti_145 : tiOf Tryd.prog 145 = some ⟨2, true, 2, [.at (.int .u8 0), .at (.int .u8 0)]⟩ := by kernel_rfl
@[simp] theorem tk_145 : tkOf Tryd.prog 145 = .struct [(0, 1), (1, 1)] := by kernel_rfl
@[simp] theorem ti_146 : tiOf Tryd.prog 146 = some ⟨2, true, 2, [.at (.int .u8 0), .at (.int .u8 0)]⟩ := by kernel_rfl
@[simp] theorem tk_146 : tkOf Tryd.prog 146 = .struct [(0, 1), (1, 1)] := by kernel_rfl
@[simp] theorem ti_147 : tiOf Tryd.prog 147 = some ⟨32, true, 32, [.at (.int .u8 0), .at (.int .u8 0), .at (.int .u8 0), .at (.int .u8 0), .at (.int .u8 0), .at (.int .u8 0), .at (.int .u8 0), .at (.int .u8 0), .at (.int .u8 0), .at (.int .u8 0), .at (.int .u8 0), .at (.int .u8 0), .at (.int .u8 0), .at (.int .u8 0), .at (.int .u8 0), .at (.int .u8 0), .at (.int .u8 0), .at (.int .u8 0), .at (.int .u8 0), .at (.int .u8 0), .at (.int .u8 0), .at (.int .u8 0), .at (.int .u8 0), .at (.int .u8 0), .at (.int .u8 0), .at (.int .u8 0), .at (.int .u8 0), .at (.int .u8 0), .at (.int .u8 0), .at (.int .u8 0), .at (.int .u8 0), .at (.int .u8 0)]⟩ := by kernel_rfl
@[simp] theorem tk_147 : tkOf Tryd.prog 147 = .array 16 146 := by kernel_rfl
@[simp] theorem ti_148 : tiOf Tryd.prog 148 = some ⟨32, true, 32, [.at (.int .u8 0), .at (.int .u8 0), .at (.int .u8 0), .at (.int .u8 0), .at (.int .u8 0), .at (.int .u8 0), .at (.int .u8 0), .at (.int .u8 0), .at (.int .u8 0), .at (.int .u8 0), .at (.int .u8 0), .at (.int .u8 0), .at (.int .u8 0), .at (.int .u8 0), .at (.int .u8 0), .at (.int .u8 0), .at (.int .u8 0), .at (.int .u8 0), .at (.int .u8 0), .at (.int .u8 0), .at (.int .u8 0), .at (.int .u8 0), .at (.int .u8 0), .at (.int .u8 0), .at (.int .u8 0), .at (.int .u8 0), .at (.int .u8 0), .at (.int .u8 0), .at (.int .u8 0), .at (.int .u8 0), .at (.int .u8 0), .at (.int .u8 0)]⟩ := by kernel_rfl
@[simp] theorem tk_148 : tkOf Tryd.prog 148 = .array 32 5 := by kernel_rfl
@[simp] theorem ti_149 : tiOf Tryd.prog 149 = some ⟨64, true, 64, [.at (.int .u8 0), .at (.int .u8 0), .at (.int .u8 0), .at (.int .u8 0), .at (.int .u8 0), .at (.int .u8 0), .at (.int .u8 0), .at (.int .u8 0), .at (.int .u8 0), .at (.int .u8 0), .at (.int .u8 0), .at (.int .u8 0), .at (.int .u8 0), .at (.int .u8 0), .at (.int .u8 0), .at (.int .u8 0), .at (.int .u8 0), .at (.int .u8 0), .at (.int .u8 0), .at (.int .u8 0), .at (.int .u8 0), .at (.int .u8 0), .at (.int .u8 0), .at (.int .u8 0), .at (.int .u8 0), .at (.int .u8 0), .at (.int .u8 0), .at (.int .u8 0), .at (.int .u8 0), .at (.int .u8 0), .at (.int .u8 0), .at (.int .u8 0), .at (.int .u8 0), .at (.int .u8 0), .at (.int .u8 0), .at (.int .u8 0), .at (.int .u8 0), .at (.int .u8 0), .at (.int .u8 0), .at (.int .u8 0), .at (.int .u8 0), .at (.int .u8 0), .at (.int .u8 0), .at (.int .u8 0), .at (.int .u8 0), .at (.int .u8 0), .at (.int .u8 0), .at (.int .u8 0), .at (.int .u8 0), .at (.int .u8 0), .at (.int .u8 0), .at (.int .u8 0), .at (.int .u8 0), .at (.int .u8 0), .at (.int .u8 0), .at (.int .u8 0), .at (.int .u8 0), .at (.int .u8 0), .at (.int .u8 0), .at (.int .u8 0), .at (.int .u8 0), .at (.int .u8 0), .at (.int .u8 0), .at (.int .u8 0)]⟩ := by kernel_rfl
@[simp] theorem tk_149 : tkOf Tryd.prog 149 = .array 64 5 := by kernel_rfl
@[simp] theorem ti_150 : tiOf Tryd.prog 150 = some ⟨1, false, 8, [.at .nilFunc]⟩ := by kernel_rfl
@[simp] theorem ti_151 : tiOf Tryd.prog 151 = some ⟨4, true, 40, [.at (.pointer none), .at (.pointer none), .at (.pointer none), .at (.string ByteArray.empty)]⟩ := by kernel_rfl
@[simp] theorem tk_151 : tkOf Tryd.prog 151 = .struct [(0, 1), (1, 1), (2, 1), (3, 1)] := by kernel_rfl
@[simp] theorem ti_152 : tiOf Tryd.prog 152 = some ⟨4, true, 40, [.at (.pointer none), .at (.pointer none), .at (.pointer none), .at (.string ByteArray.empty)]⟩ := by kernel_rfl
@[simp] theorem tk_152 : tkOf Tryd.prog 152 = .struct [(0, 1), (1, 1), (2, 1), (3, 1)] := by kernel_rfl
@[simp] theorem ti_153 : tiOf Tryd.prog 153 = some ⟨0, true, 0, []⟩ := by kernel_rfl
@[simp] theorem tk_153 : tkOf Tryd.prog 153 = .array 0 16 := by kernel_rfl
@[simp] theorem ti_154 : tiOf Tryd.prog 154 = some ⟨0, true, 0, []⟩ := by kernel_rfl
@[simp] theorem tk_154 : tkOf Tryd.prog 154 = .struct [(0, 0)] := by kernel_rfl
@[simp] theorem ti_155 : tiOf Tryd.prog 155 = some ⟨0, true, 0, []⟩ := by kernel_rfl
@[simp] theorem tk_155 : tkOf Tryd.prog 155 = .struct [(0, 0)] := by kernel_rfl
@[simp] theorem ti_156 : tiOf Tryd.prog 156 = some ⟨1, false, 8, [.at .nilFunc]⟩ := by kernel_rfl
@[simp] theorem ti_157 : tiOf Tryd.prog 157 = some ⟨1, false, 1, [.at (.int .u8 0)]⟩ := by kernel_rfl
@[simp] theorem tk_157 : tkOf Tryd.prog 157 = .int .u8 := by kernel_rfl
@[simp] theorem ti_158 : tiOf Tryd.prog 158 = some ⟨1, false, 1, [.at (.int .u8 0)]⟩ := by kernel_rfl
@[simp] theorem tk_158 : tkOf Tryd.prog 158 = .int .u8 := by kernel_rfl
@[simp] theorem ti_159 : tiOf Tryd.prog 159 = some ⟨1, false, 8, [.at .nilFunc]⟩ := by kernel_rfl
@[simp] theorem ti_160 : tiOf Tryd.prog 160 = some ⟨1, false, 4, [.at (.int .i32 0)]⟩ := by kernel_rfl
@[simp] theorem tk_160 : tkOf Tryd.prog 160 = .int .i32 := by kernel_rfl
@[simp] theorem ti_161 : tiOf Tryd.prog 161 = some ⟨1, false, 4, [.at (.int .i32 0)]⟩ := by kernel_rfl
@[simp] theorem tk_161 : tkOf Tryd.prog 161 = .int .i32 := by kernel_rfl
@[simp] theorem ti_162 : tiOf Tryd.prog 162 = some ⟨11, true, 48, [.at (.int .u64 0), .at (.int .u64 0), .at (.int .u32 0), .at (.int .u8 0), .at (.int .u8 0), .at (.int .u8 0), .at (.int .u8 0), .at .nilFunc, .at (.pointer none), .at (.int .i32 0), .at (.int .i32 0)]⟩ := by kernel_rfl
@[simp] theorem tk_162 : tkOf Tryd.prog 162 = .struct [(0, 1), (1, 1), (2, 1), (3, 1), (4, 1), (5, 1), (6, 1), (7, 1), (8, 1), (9, 1), (10, 1)] := by kernel_rfl
@[simp] theorem ti_163 : tiOf Tryd.prog 163 = some ⟨11, true, 48, [.at (.int .u64 0), .at (.int .u64 0), .at (.int .u32 0), .at (.int .u8 0), .at (.int .u8 0), .at (.int .u8 0), .at (.int .u8 0), .at .nilFunc, .at (.pointer none), .at (.int .i32 0), .at (.int .i32 0)]⟩ := by kernel_rfl
@[simp] theorem tk_163 : tkOf Tryd.prog 163 = .struct [(0, 1), (1, 1), (2, 1), (3, 1), (4, 1), (5, 1), (6, 1), (7, 1), (8, 1), (9, 1), (10, 1)] := by kernel_rfl
@[simp] theorem ti_164 : tiOf Tryd.prog 164 = some ⟨1, false, 8, [.at (.pointer none)]⟩ := by kernel_rfl
end Go.Proofs.YtallmebpmoaopaaDoor.E
