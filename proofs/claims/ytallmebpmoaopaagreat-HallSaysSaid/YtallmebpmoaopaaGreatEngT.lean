/- EngT: the types of the program, as the abstract machine asks for them. Printed by types.py. -/
import Derived.Test.YtallmebpmoaopaaGreatProg
import Derived.Test.YtallmebpmoaopaaGreatX1
namespace Go.Proofs.YtallmebpmoaopaaGreat.E
open Go.RowKit Go.Proofs
set_option maxRecDepth 100000
@[simp] theorem ti_1 : tiOf Tryz.prog 1 = some ⟨1, false, 8, [.at .nilFunc]⟩ := by kernel_rfl
@[simp] theorem ti_2 : tiOf Tryz.prog 2 = some ⟨1, false, 8, [.at (.int .i64 0)]⟩ := by kernel_rfl
@[simp] theorem tk_2 : tkOf Tryz.prog 2 = .int .i64 := by kernel_rfl
@[simp] theorem ti_3 : tiOf Tryz.prog 3 = some ⟨1, false, 8, [.at (.int .i64 0)]⟩ := by kernel_rfl
@[simp] theorem tk_3 : tkOf Tryz.prog 3 = .int .i64 := by kernel_rfl
@[simp] theorem ti_4 : tiOf Tryz.prog 4 = some ⟨1, false, 1, [.at (.bool false)]⟩ := by kernel_rfl
@[simp] theorem tk_4 : tkOf Tryz.prog 4 = .bool := by kernel_rfl
@[simp] theorem ti_5 : tiOf Tryz.prog 5 = some ⟨1, false, 1, [.at (.int .u8 0)]⟩ := by kernel_rfl
@[simp] theorem tk_5 : tkOf Tryz.prog 5 = .int .u8 := by kernel_rfl
@[simp] theorem ti_6 : tiOf Tryz.prog 6 = some ⟨1, false, 1, [.at (.int .u8 0)]⟩ := by kernel_rfl
@[simp] theorem tk_6 : tkOf Tryz.prog 6 = .int .u8 := by kernel_rfl
@[simp] theorem ti_7 : tiOf Tryz.prog 7 = some ⟨4, true, 24, [.at (.int .i64 0), .at (.int .i64 0), .at (.bool false), .at (.int .u8 0)]⟩ := by kernel_rfl
@[simp] theorem tk_7 : tkOf Tryz.prog 7 = .struct [(0, 1), (1, 1), (2, 1), (3, 1)] := by kernel_rfl
@[simp] theorem ti_8 : tiOf Tryz.prog 8 = some ⟨4, true, 24, [.at (.int .i64 0), .at (.int .i64 0), .at (.bool false), .at (.int .u8 0)]⟩ := by kernel_rfl
@[simp] theorem tk_8 : tkOf Tryz.prog 8 = .struct [(0, 1), (1, 1), (2, 1), (3, 1)] := by kernel_rfl
@[simp] theorem ti_9 : tiOf Tryz.prog 9 = some ⟨1, false, 16, [.at (.string ByteArray.empty)]⟩ := by kernel_rfl
@[simp] theorem tk_9 : tkOf Tryz.prog 9 = .string := by kernel_rfl
@[simp] theorem ti_10 : tiOf Tryz.prog 10 = some ⟨1, false, 16, [.at (.string ByteArray.empty)]⟩ := by kernel_rfl
@[simp] theorem tk_10 : tkOf Tryz.prog 10 = .string := by kernel_rfl
@[simp] theorem ti_11 : tiOf Tryz.prog 11 = some ⟨1, false, 16, [.at (.string ByteArray.empty)]⟩ := by kernel_rfl
@[simp] theorem tk_11 : tkOf Tryz.prog 11 = .string := by kernel_rfl
@[simp] theorem ti_12 : tiOf Tryz.prog 12 = some ⟨1, false, 8, [.at (.int .u64 0)]⟩ := by kernel_rfl
@[simp] theorem tk_12 : tkOf Tryz.prog 12 = .int .u64 := by kernel_rfl
@[simp] theorem ti_13 : tiOf Tryz.prog 13 = some ⟨2, true, 24, [.at (.string ByteArray.empty), .at (.int .u64 0)]⟩ := by kernel_rfl
@[simp] theorem tk_13 : tkOf Tryz.prog 13 = .struct [(0, 1), (1, 1)] := by kernel_rfl
@[simp] theorem ti_14 : tiOf Tryz.prog 14 = some ⟨2, true, 24, [.at (.string ByteArray.empty), .at (.int .u64 0)]⟩ := by kernel_rfl
@[simp] theorem tk_14 : tkOf Tryz.prog 14 = .struct [(0, 1), (1, 1)] := by kernel_rfl
@[simp] theorem ti_15 : tiOf Tryz.prog 15 = some ⟨1, false, 8, [.at (.pointer none)]⟩ := by kernel_rfl
@[simp] theorem ti_16 : tiOf Tryz.prog 16 = some ⟨1, false, 8, [.at (.pointer none)]⟩ := by kernel_rfl
@[simp] theorem ti_17 : tiOf Tryz.prog 17 = some ⟨1, false, 8, [.at (.pointer none)]⟩ := by kernel_rfl
@[simp] theorem ti_18 : tiOf Tryz.prog 18 = some ⟨1, true, 8, [.at (.pointer none)]⟩ := by kernel_rfl
@[simp] theorem tk_18 : tkOf Tryz.prog 18 = .struct [(0, 1)] := by kernel_rfl
@[simp] theorem ti_19 : tiOf Tryz.prog 19 = some ⟨1, true, 8, [.at (.pointer none)]⟩ := by kernel_rfl
@[simp] theorem tk_19 : tkOf Tryz.prog 19 = .struct [(0, 1)] := by kernel_rfl
@[simp] theorem ti_20 : tiOf Tryz.prog 20 = some ⟨1, false, 16, [.at .nilIface]⟩ := by kernel_rfl
@[simp] theorem ti_21 : tiOf Tryz.prog 21 = some ⟨1, false, 4, [.at (.int .i32 0)]⟩ := by kernel_rfl
@[simp] theorem tk_21 : tkOf Tryz.prog 21 = .int .i32 := by kernel_rfl
@[simp] theorem ti_22 : tiOf Tryz.prog 22 = some ⟨1, false, 24, [.nl]⟩ := by kernel_rfl
@[simp] theorem tk_22 : tkOf Tryz.prog 22 = .slice 62 := by kernel_rfl
@[simp] theorem ti_23 : tiOf Tryz.prog 23 = some ⟨1, false, 24, [.nl]⟩ := by kernel_rfl
@[simp] theorem tk_23 : tkOf Tryz.prog 23 = .slice 3 := by kernel_rfl
@[simp] theorem ti_24 : tiOf Tryz.prog 24 = some ⟨3, true, 40, [.nl, .at (.int .i64 0), .at (.int .i64 0)]⟩ := by kernel_rfl
@[simp] theorem tk_24 : tkOf Tryz.prog 24 = .struct [(0, 1), (1, 1), (2, 1)] := by kernel_rfl
@[simp] theorem ti_25 : tiOf Tryz.prog 25 = some ⟨3, true, 40, [.nl, .at (.int .i64 0), .at (.int .i64 0)]⟩ := by kernel_rfl
@[simp] theorem tk_25 : tkOf Tryz.prog 25 = .struct [(0, 1), (1, 1), (2, 1)] := by kernel_rfl
@[simp] theorem ti_26 : tiOf Tryz.prog 26 = some ⟨4, true, 64, [.nl, .nl, .at (.int .i64 0), .at (.int .i64 0)]⟩ := by kernel_rfl
@[simp] theorem tk_26 : tkOf Tryz.prog 26 = .struct [(0, 1), (1, 3)] := by kernel_rfl
@[simp] theorem ti_27 : tiOf Tryz.prog 27 = some ⟨4, true, 64, [.nl, .nl, .at (.int .i64 0), .at (.int .i64 0)]⟩ := by kernel_rfl
@[simp] theorem tk_27 : tkOf Tryz.prog 27 = .struct [(0, 1), (1, 3)] := by kernel_rfl
@[simp] theorem ti_28 : tiOf Tryz.prog 28 = some ⟨1, false, 24, [.nl]⟩ := by kernel_rfl
@[simp] theorem tk_28 : tkOf Tryz.prog 28 = .slice 56 := by kernel_rfl
@[simp] theorem ti_29 : tiOf Tryz.prog 29 = some ⟨5, true, 88, [.nl, .nl, .at (.int .i64 0), .at (.int .i64 0), .nl]⟩ := by kernel_rfl
@[simp] theorem tk_29 : tkOf Tryz.prog 29 = .struct [(0, 4), (4, 1)] := by kernel_rfl
@[simp] theorem ti_30 : tiOf Tryz.prog 30 = some ⟨5, true, 88, [.nl, .nl, .at (.int .i64 0), .at (.int .i64 0), .nl]⟩ := by kernel_rfl
@[simp] theorem tk_30 : tkOf Tryz.prog 30 = .struct [(0, 4), (4, 1)] := by kernel_rfl
@[simp] theorem ti_31 : tiOf Tryz.prog 31 = some ⟨5, true, 56, [.at (.int .i64 0), .at (.int .i64 0), .at (.int .i64 0), .at (.int .i64 0), .nl]⟩ := by kernel_rfl
@[simp] theorem tk_31 : tkOf Tryz.prog 31 = .struct [(0, 1), (1, 1), (2, 1), (3, 1), (4, 1)] := by kernel_rfl
@[simp] theorem ti_32 : tiOf Tryz.prog 32 = some ⟨5, true, 56, [.at (.int .i64 0), .at (.int .i64 0), .at (.int .i64 0), .at (.int .i64 0), .nl]⟩ := by kernel_rfl
@[simp] theorem tk_32 : tkOf Tryz.prog 32 = .struct [(0, 1), (1, 1), (2, 1), (3, 1), (4, 1)] := by kernel_rfl
@[simp] theorem ti_33 : tiOf Tryz.prog 33 = some ⟨7, true, 72, [.at (.int .i64 0), .at (.int .i64 0), .at (.int .i64 0), .at (.int .i64 0), .at (.int .i64 0), .at (.int .i64 0), .nl]⟩ := by kernel_rfl
@[simp] theorem tk_33 : tkOf Tryz.prog 33 = .struct [(0, 1), (1, 1), (2, 5)] := by kernel_rfl
@[simp] theorem ti_34 : tiOf Tryz.prog 34 = some ⟨7, true, 72, [.at (.int .i64 0), .at (.int .i64 0), .at (.int .i64 0), .at (.int .i64 0), .at (.int .i64 0), .at (.int .i64 0), .nl]⟩ := by kernel_rfl
@[simp] theorem tk_34 : tkOf Tryz.prog 34 = .struct [(0, 1), (1, 1), (2, 5)] := by kernel_rfl
@[simp] theorem ti_35 : tiOf Tryz.prog 35 = some ⟨1, false, 24, [.nl]⟩ := by kernel_rfl
@[simp] theorem tk_35 : tkOf Tryz.prog 35 = .slice 34 := by kernel_rfl
@[simp] theorem ti_36 : tiOf Tryz.prog 36 = some ⟨1, false, 8, [.at (.int .i64 0)]⟩ := by kernel_rfl
@[simp] theorem tk_36 : tkOf Tryz.prog 36 = .int .i64 := by kernel_rfl
@[simp] theorem ti_37 : tiOf Tryz.prog 37 = some ⟨3, true, 40, [.at (.int .i64 0), .at (.int .i64 0), .nl]⟩ := by kernel_rfl
@[simp] theorem tk_37 : tkOf Tryz.prog 37 = .struct [(0, 1), (1, 1), (2, 1)] := by kernel_rfl
@[simp] theorem ti_38 : tiOf Tryz.prog 38 = some ⟨3, true, 40, [.at (.int .i64 0), .at (.int .i64 0), .nl]⟩ := by kernel_rfl
@[simp] theorem tk_38 : tkOf Tryz.prog 38 = .struct [(0, 1), (1, 1), (2, 1)] := by kernel_rfl
@[simp] theorem ti_40 : tiOf Tryz.prog 40 = some ⟨1, false, 8, [.at .nilFunc]⟩ := by kernel_rfl
@[simp] theorem ti_42 : tiOf Tryz.prog 42 = some ⟨1, false, 8, [.at .nilFunc]⟩ := by kernel_rfl
@[simp] theorem ti_43 : tiOf Tryz.prog 43 = some ⟨1, false, 24, [.nl]⟩ := by kernel_rfl
@[simp] theorem tk_43 : tkOf Tryz.prog 43 = .slice 38 := by kernel_rfl
@[simp] theorem ti_45 : tiOf Tryz.prog 45 = some ⟨1, false, 8, [.at .nilFunc]⟩ := by kernel_rfl
@[simp] theorem ti_46 : tiOf Tryz.prog 46 = some ⟨1, false, 8, [.at .nilFunc]⟩ := by kernel_rfl
@[simp] theorem ti_47 : tiOf Tryz.prog 47 = some ⟨1, false, 8, [.at .nilFunc]⟩ := by kernel_rfl
@[simp] theorem ti_48 : tiOf Tryz.prog 48 = some ⟨1, false, 8, [.at .nilFunc]⟩ := by kernel_rfl
@[simp] theorem ti_49 : tiOf Tryz.prog 49 = some ⟨1, false, 8, [.at .nilFunc]⟩ := by kernel_rfl
@[simp] theorem ti_50 : tiOf Tryz.prog 50 = some ⟨1, false, 8, [.at .nilFunc]⟩ := by kernel_rfl
@[simp] theorem ti_51 : tiOf Tryz.prog 51 = some ⟨1, false, 8, [.at .nilFunc]⟩ := by kernel_rfl
@[simp] theorem ti_52 : tiOf Tryz.prog 52 = some ⟨1, false, 8, [.at .nilFunc]⟩ := by kernel_rfl
@[simp] theorem ti_53 : tiOf Tryz.prog 53 = some ⟨1, false, 8, [.at .nilFunc]⟩ := by kernel_rfl
@[simp] theorem ti_54 : tiOf Tryz.prog 54 = some ⟨1, false, 8, [.at (.pointer none)]⟩ := by kernel_rfl
@[simp] theorem ti_55 : tiOf Tryz.prog 55 = some ⟨4, true, 48, [.at (.int .i64 0), .at (.int .i64 0), .at (.int .i64 0), .nl]⟩ := by kernel_rfl
@[simp] theorem tk_55 : tkOf Tryz.prog 55 = .struct [(0, 1), (1, 3)] := by kernel_rfl
@[simp] theorem ti_56 : tiOf Tryz.prog 56 = some ⟨4, true, 48, [.at (.int .i64 0), .at (.int .i64 0), .at (.int .i64 0), .nl]⟩ := by kernel_rfl
@[simp] theorem tk_56 : tkOf Tryz.prog 56 = .struct [(0, 1), (1, 3)] := by kernel_rfl
@[simp] theorem ti_57 : tiOf Tryz.prog 57 = some ⟨1, false, 8, [.at .nilFunc]⟩ := by kernel_rfl
@[simp] theorem ti_59 : tiOf Tryz.prog 59 = some ⟨1, false, 8, [.at .nilFunc]⟩ := by kernel_rfl
@[simp] theorem ti_60 : tiOf Tryz.prog 60 = some ⟨1, false, 8, [.at .nilFunc]⟩ := by kernel_rfl
@[simp] theorem ti_61 : tiOf Tryz.prog 61 = some ⟨2, true, 32, [.at (.int .i64 0), .nl]⟩ := by kernel_rfl
@[simp] theorem tk_61 : tkOf Tryz.prog 61 = .struct [(0, 1), (1, 1)] := by kernel_rfl
@[simp] theorem ti_62 : tiOf Tryz.prog 62 = some ⟨2, true, 32, [.at (.int .i64 0), .nl]⟩ := by kernel_rfl
@[simp] theorem tk_62 : tkOf Tryz.prog 62 = .struct [(0, 1), (1, 1)] := by kernel_rfl
@[simp] theorem ti_63 : tiOf Tryz.prog 63 = some ⟨1, false, 8, [.at .nilFunc]⟩ := by kernel_rfl
@[simp] theorem ti_64 : tiOf Tryz.prog 64 = some ⟨1, false, 8, [.at .nilFunc]⟩ := by kernel_rfl
@[simp] theorem ti_65 : tiOf Tryz.prog 65 = some ⟨1, false, 8, [.at .nilFunc]⟩ := by kernel_rfl
@[simp] theorem ti_66 : tiOf Tryz.prog 66 = some ⟨1, false, 8, [.at .nilFunc]⟩ := by kernel_rfl
@[simp] theorem ti_67 : tiOf Tryz.prog 67 = some ⟨1, false, 8, [.at .nilFunc]⟩ := by kernel_rfl
@[simp] theorem ti_68 : tiOf Tryz.prog 68 = some ⟨1, false, 8, [.at .nilFunc]⟩ := by kernel_rfl
@[simp] theorem ti_69 : tiOf Tryz.prog 69 = some ⟨1, false, 8, [.at .nilFunc]⟩ := by kernel_rfl
@[simp] theorem ti_70 : tiOf Tryz.prog 70 = some ⟨1, false, 8, [.at .nilFunc]⟩ := by kernel_rfl
@[simp] theorem ti_71 : tiOf Tryz.prog 71 = some ⟨1, false, 8, [.at .nilFunc]⟩ := by kernel_rfl
@[simp] theorem ti_72 : tiOf Tryz.prog 72 = some ⟨1, false, 8, [.at .nilFunc]⟩ := by kernel_rfl
@[simp] theorem ti_73 : tiOf Tryz.prog 73 = some ⟨1, false, 8, [.at .nilFunc]⟩ := by kernel_rfl
@[simp] theorem ti_74 : tiOf Tryz.prog 74 = some ⟨1, false, 8, [.at .nilFunc]⟩ := by kernel_rfl
@[simp] theorem ti_76 : tiOf Tryz.prog 76 = some ⟨1, false, 8, [.at .nilFunc]⟩ := by kernel_rfl
@[simp] theorem ti_77 : tiOf Tryz.prog 77 = some ⟨1, false, 8, [.at .nilFunc]⟩ := by kernel_rfl
@[simp] theorem ti_79 : tiOf Tryz.prog 79 = some ⟨1, false, 8, [.at .nilFunc]⟩ := by kernel_rfl
@[simp] theorem ti_81 : tiOf Tryz.prog 81 = some ⟨1, false, 8, [.at .nilFunc]⟩ := by kernel_rfl
@[simp] theorem ti_83 : tiOf Tryz.prog 83 = some ⟨1, false, 8, [.at .nilFunc]⟩ := by kernel_rfl
@[simp] theorem ti_84 : tiOf Tryz.prog 84 = some ⟨1, false, 8, [.at .nilFunc]⟩ := by kernel_rfl
@[simp] theorem ti_85 : tiOf Tryz.prog 85 = some ⟨1, false, 8, [.at .nilFunc]⟩ := by kernel_rfl
@[simp] theorem ti_86 : tiOf Tryz.prog 86 = some ⟨1, false, 8, [.at .nilFunc]⟩ := by kernel_rfl
@[simp] theorem ti_87 : tiOf Tryz.prog 87 = some ⟨1, false, 8, [.at .nilFunc]⟩ := by kernel_rfl
@[simp] theorem ti_88 : tiOf Tryz.prog 88 = some ⟨1, false, 8, [.at .nilFunc]⟩ := by kernel_rfl
@[simp] theorem ti_89 : tiOf Tryz.prog 89 = some ⟨1, false, 8, [.at .nilFunc]⟩ := by kernel_rfl
@[simp] theorem ti_90 : tiOf Tryz.prog 90 = some ⟨1, false, 8, [.at .nilFunc]⟩ := by kernel_rfl
@[simp] theorem ti_91 : tiOf Tryz.prog 91 = some ⟨4, true, 4, [.at (.bool false), .at (.bool false), .at (.bool false), .at (.bool false)]⟩ := by kernel_rfl
@[simp] theorem tk_91 : tkOf Tryz.prog 91 = .array 4 4 := by kernel_rfl
@[simp] theorem ti_92 : tiOf Tryz.prog 92 = some ⟨1, false, 8, [.at .nilFunc]⟩ := by kernel_rfl
@[simp] theorem ti_93 : tiOf Tryz.prog 93 = some ⟨1, false, 8, [.at .nilFunc]⟩ := by kernel_rfl
@[simp] theorem ti_94 : tiOf Tryz.prog 94 = some ⟨1, false, 8, [.at .nilFunc]⟩ := by kernel_rfl
@[simp] theorem ti_95 : tiOf Tryz.prog 95 = some ⟨1, false, 8, [.at .nilFunc]⟩ := by kernel_rfl
@[simp] theorem ti_96 : tiOf Tryz.prog 96 = some ⟨1, false, 8, [.at .nilFunc]⟩ := by kernel_rfl
@[simp] theorem ti_97 : tiOf Tryz.prog 97 = some ⟨1, false, 8, [.at (.pointer none)]⟩ := by kernel_rfl
@[simp] theorem ti_99 : tiOf Tryz.prog 99 = some ⟨1, false, 8, [.at .nilFunc]⟩ := by kernel_rfl
@[simp] theorem ti_101 : tiOf Tryz.prog 101 = some ⟨1, false, 8, [.at .nilFunc]⟩ := by kernel_rfl
@[simp] theorem ti_103 : tiOf Tryz.prog 103 = some ⟨1, false, 8, [.at .nilFunc]⟩ := by kernel_rfl
@[simp] theorem ti_104 : tiOf Tryz.prog 104 = some ⟨1, false, 8, [.at .nilFunc]⟩ := by kernel_rfl
@[simp] theorem ti_105 : tiOf Tryz.prog 105 = some ⟨2, true, 24, [.at (.string ByteArray.empty), .at (.bool false)]⟩ := by kernel_rfl
@[simp] theorem tk_105 : tkOf Tryz.prog 105 = .struct [(0, 1), (1, 1)] := by kernel_rfl
@[simp] theorem ti_106 : tiOf Tryz.prog 106 = some ⟨1, false, 24, [.nl]⟩ := by kernel_rfl
@[simp] theorem tk_106 : tkOf Tryz.prog 106 = .slice 105 := by kernel_rfl
@[simp] theorem ti_107 : tiOf Tryz.prog 107 = some ⟨1, false, 8, [.at .nilFunc]⟩ := by kernel_rfl
@[simp] theorem ti_108 : tiOf Tryz.prog 108 = some ⟨1, false, 8, [.at .nilFunc]⟩ := by kernel_rfl
@[simp] theorem ti_109 : tiOf Tryz.prog 109 = some ⟨1, false, 8, [.at .nilFunc]⟩ := by kernel_rfl
@[simp] theorem ti_110 : tiOf Tryz.prog 110 = some ⟨1, false, 8, [.at .nilFunc]⟩ := by kernel_rfl
@[simp] theorem ti_111 : tiOf Tryz.prog 111 = some ⟨1, false, 8, [.at .nilFunc]⟩ := by kernel_rfl
@[simp] theorem ti_112 : tiOf Tryz.prog 112 = some ⟨1, false, 8, [.at .nilFunc]⟩ := by kernel_rfl
@[simp] theorem ti_114 : tiOf Tryz.prog 114 = some ⟨1, false, 8, [.at .nilFunc]⟩ := by kernel_rfl
@[simp] theorem ti_115 : tiOf Tryz.prog 115 = some ⟨1, false, 8, [.at .nilFunc]⟩ := by kernel_rfl
@[simp] theorem ti_116 : tiOf Tryz.prog 116 = some ⟨1, false, 8, [.at .nilFunc]⟩ := by kernel_rfl
@[simp] theorem ti_117 : tiOf Tryz.prog 117 = some ⟨1, false, 24, [.nl]⟩ := by kernel_rfl
@[simp] theorem tk_117 : tkOf Tryz.prog 117 = .slice 23 := by kernel_rfl
@[simp] theorem ti_118 : tiOf Tryz.prog 118 = some ⟨1, false, 8, [.at .nilFunc]⟩ := by kernel_rfl
@[simp] theorem ti_119 : tiOf Tryz.prog 119 = some ⟨1, false, 8, [.at .nilFunc]⟩ := by kernel_rfl
@[simp] theorem ti_120 : tiOf Tryz.prog 120 = some ⟨1, false, 8, [.at .nilFunc]⟩ := by kernel_rfl
@[simp] theorem ti_121 : tiOf Tryz.prog 121 = some ⟨1, false, 8, [.at .nilFunc]⟩ := by kernel_rfl
@[simp] theorem ti_122 : tiOf Tryz.prog 122 = some ⟨1, false, 8, [.at (.pointer none)]⟩ := by kernel_rfl
@[simp] theorem ti_124 : tiOf Tryz.prog 124 = some ⟨1, false, 8, [.at .nilFunc]⟩ := by kernel_rfl
@[simp] theorem ti_125 : tiOf Tryz.prog 125 = some ⟨1, false, 24, [.nl]⟩ := by kernel_rfl
@[simp] theorem tk_125 : tkOf Tryz.prog 125 = .slice 9 := by kernel_rfl
@[simp] theorem ti_126 : tiOf Tryz.prog 126 = some ⟨1, false, 8, [.at .nilFunc]⟩ := by kernel_rfl
@[simp] theorem ti_127 : tiOf Tryz.prog 127 = some ⟨1, false, 8, [.at .nilFunc]⟩ := by kernel_rfl
@[simp] theorem ti_129 : tiOf Tryz.prog 129 = some ⟨1, false, 8, [.at .nilFunc]⟩ := by kernel_rfl
@[simp] theorem ti_130 : tiOf Tryz.prog 130 = some ⟨1, false, 8, [.at .nilFunc]⟩ := by kernel_rfl
@[simp] theorem ti_131 : tiOf Tryz.prog 131 = some ⟨1, false, 8, [.at .nilFunc]⟩ := by kernel_rfl
@[simp] theorem ti_132 : tiOf Tryz.prog 132 = some ⟨1, false, 8, [.at .nilFunc]⟩ := by kernel_rfl
@[simp] theorem ti_133 : tiOf Tryz.prog 133 = some ⟨1, false, 8, [.at .nilFunc]⟩ := by kernel_rfl
@[simp] theorem ti_134 : tiOf Tryz.prog 134 = some ⟨1, false, 8, [.at .nilFunc]⟩ := by kernel_rfl
@[simp] theorem ti_135 : tiOf Tryz.prog 135 = some ⟨1, false, 8, [.at .nilFunc]⟩ := by kernel_rfl
@[simp] theorem ti_136 : tiOf Tryz.prog 136 = some ⟨1, false, 8, [.at .nilFunc]⟩ := by kernel_rfl
@[simp] theorem ti_137 : tiOf Tryz.prog 137 = some ⟨1, false, 8, [.at .nilFunc]⟩ := by kernel_rfl
@[simp] theorem ti_138 : tiOf Tryz.prog 138 = some ⟨1, false, 8, [.at .nilFunc]⟩ := by kernel_rfl
@[simp] theorem ti_139 : tiOf Tryz.prog 139 = some ⟨1, false, 8, [.at (.int .u64 0)]⟩ := by kernel_rfl
@[simp] theorem tk_139 : tkOf Tryz.prog 139 = .int .u64 := by kernel_rfl
@[simp] theorem ti_140 : tiOf Tryz.prog 140 = some ⟨1, false, 4, [.at (.int .u32 0)]⟩ := by kernel_rfl
@[simp] theorem tk_140 : tkOf Tryz.prog 140 = .int .u32 := by kernel_rfl
@[simp] theorem ti_142 : tiOf Tryz.prog 142 = some ⟨1, false, 8, [.at .nilFunc]⟩ := by kernel_rfl
@[simp] theorem ti_143 : tiOf Tryz.prog 143 = some ⟨1, false, 8, [.at .nilFunc]⟩ := by kernel_rfl
@[simp] theorem ti_144 : tiOf Tryz.prog 144 = some ⟨4, true, 40, [.at (.pointer none), .at (.pointer none), .at (.pointer none), .at (.string ByteArray.empty)]⟩ := by kernel_rfl
@[simp] theorem tk_144 : tkOf Tryz.prog 144 = .struct [(0, 1), (1, 1), (2, 1), (3, 1)] := by kernel_rfl
@[simp] theorem ti_145 : tiOf Tryz.prog 145 = some ⟨4, true, 40, [.at (.pointer none), .at (.pointer none), .at (.pointer none), .at (.string ByteArray.empty)]⟩ := by kernel_rfl
@[simp] theorem tk_145 : tkOf Tryz.prog 145 = .struct [(0, 1), (1, 1), (2, 1), (3, 1)] := by kernel_rfl
@[simp] theorem ti_146 : tiOf Tryz.prog 146 = some ⟨0, true, 0, []⟩ := by kernel_rfl
@[simp] theorem tk_146 : tkOf Tryz.prog 146 = .array 0 16 := by kernel_rfl
@[simp] theorem ti_147 : tiOf Tryz.prog 147 = some ⟨0, true, 0, []⟩ := by kernel_rfl
@[simp] theorem tk_147 : tkOf Tryz.prog 147 = .struct [(0, 0)] := by kernel_rfl
@[simp] theorem ti_148 : tiOf Tryz.prog 148 = some ⟨0, true, 0, []⟩ := by kernel_rfl
@[simp] theorem tk_148 : tkOf Tryz.prog 148 = .struct [(0, 0)] := by kernel_rfl
@[simp] theorem ti_149 : tiOf Tryz.prog 149 = some ⟨1, false, 8, [.at .nilFunc]⟩ := by kernel_rfl
@[simp] theorem ti_150 : tiOf Tryz.prog 150 = some ⟨1, false, 1, [.at (.int .u8 0)]⟩ := by kernel_rfl
@[simp] theorem tk_150 : tkOf Tryz.prog 150 = .int .u8 := by kernel_rfl
@[simp] theorem ti_151 : tiOf Tryz.prog 151 = some ⟨1, false, 1, [.at (.int .u8 0)]⟩ := by kernel_rfl
@[simp] theorem tk_151 : tkOf Tryz.prog 151 = .int .u8 := by kernel_rfl
@[simp] theorem ti_152 : tiOf Tryz.prog 152 = some ⟨1, false, 8, [.at .nilFunc]⟩ := by kernel_rfl
@[simp] theorem ti_153 : tiOf Tryz.prog 153 = some ⟨1, false, 8, [.at (.pointer none)]⟩ := by kernel_rfl
@[simp] theorem ti_154 : tiOf Tryz.prog 154 = some ⟨1, false, 4, [.at (.int .i32 0)]⟩ := by kernel_rfl
@[simp] theorem tk_154 : tkOf Tryz.prog 154 = .int .i32 := by kernel_rfl
@[simp] theorem ti_155 : tiOf Tryz.prog 155 = some ⟨1, false, 4, [.at (.int .i32 0)]⟩ := by kernel_rfl
@[simp] theorem tk_155 : tkOf Tryz.prog 155 = .int .i32 := by kernel_rfl
@[simp] theorem ti_156 : tiOf Tryz.prog 156 = some ⟨11, true, 48, [.at (.int .u64 0), .at (.int .u64 0), .at (.int .u32 0), .at (.int .u8 0), .at (.int .u8 0), .at (.int .u8 0), .at (.int .u8 0), .at .nilFunc, .at (.pointer none), .at (.int .i32 0), .at (.int .i32 0)]⟩ := by kernel_rfl
@[simp] theorem tk_156 : tkOf Tryz.prog 156 = .struct [(0, 1), (1, 1), (2, 1), (3, 1), (4, 1), (5, 1), (6, 1), (7, 1), (8, 1), (9, 1), (10, 1)] := by kernel_rfl
@[simp] theorem ti_157 : tiOf Tryz.prog 157 = some ⟨11, true, 48, [.at (.int .u64 0), .at (.int .u64 0), .at (.int .u32 0), .at (.int .u8 0), .at (.int .u8 0), .at (.int .u8 0), .at (.int .u8 0), .at .nilFunc, .at (.pointer none), .at (.int .i32 0), .at (.int .i32 0)]⟩ := by kernel_rfl
@[simp] theorem tk_157 : tkOf Tryz.prog 157 = .struct [(0, 1), (1, 1), (2, 1), (3, 1), (4, 1), (5, 1), (6, 1), (7, 1), (8, 1), (9, 1), (10, 1)] := by kernel_rfl
@[simp] theorem ti_158 : tiOf Tryz.prog 158 = some ⟨1, false, 8, [.at (.pointer none)]⟩ := by kernel_rfl
end Go.Proofs.YtallmebpmoaopaaGreat.E
