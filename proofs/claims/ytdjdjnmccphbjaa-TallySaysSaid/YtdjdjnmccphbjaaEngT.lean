/- EngT: the types of the program, as the abstract machine asks for them. Printed by types.py. -/
import Derived.Test.YtdjdjnmccphbjaaProg
import Derived.Test.YtdjdjnmccphbjaaX1
namespace Go.Proofs.Ytdjdjnmccphbjaa.E
open Go.RowKit Go.Proofs
set_option maxRecDepth 100000
@[simp] theorem ti_1 : tiOf Try.prog 1 = some ⟨1, false, 8, [.at .nilFunc]⟩ := by kernel_rfl
@[simp] theorem ti_2 : tiOf Try.prog 2 = some ⟨1, false, 8, [.at (.int .i64 0)]⟩ := by kernel_rfl
@[simp] theorem tk_2 : tkOf Try.prog 2 = .int .i64 := by kernel_rfl
@[simp] theorem ti_3 : tiOf Try.prog 3 = some ⟨1, false, 8, [.at (.int .i64 0)]⟩ := by kernel_rfl
@[simp] theorem tk_3 : tkOf Try.prog 3 = .int .i64 := by kernel_rfl
@[simp] theorem ti_4 : tiOf Try.prog 4 = some ⟨1, false, 1, [.at (.bool false)]⟩ := by kernel_rfl
@[simp] theorem tk_4 : tkOf Try.prog 4 = .bool := by kernel_rfl
@[simp] theorem ti_5 : tiOf Try.prog 5 = some ⟨1, false, 1, [.at (.int .u8 0)]⟩ := by kernel_rfl
@[simp] theorem tk_5 : tkOf Try.prog 5 = .int .u8 := by kernel_rfl
@[simp] theorem ti_6 : tiOf Try.prog 6 = some ⟨1, false, 1, [.at (.int .u8 0)]⟩ := by kernel_rfl
@[simp] theorem tk_6 : tkOf Try.prog 6 = .int .u8 := by kernel_rfl
@[simp] theorem ti_7 : tiOf Try.prog 7 = some ⟨4, true, 24, [.at (.int .i64 0), .at (.int .i64 0), .at (.bool false), .at (.int .u8 0)]⟩ := by kernel_rfl
@[simp] theorem tk_7 : tkOf Try.prog 7 = .struct [(0, 1), (1, 1), (2, 1), (3, 1)] := by kernel_rfl
@[simp] theorem ti_8 : tiOf Try.prog 8 = some ⟨4, true, 24, [.at (.int .i64 0), .at (.int .i64 0), .at (.bool false), .at (.int .u8 0)]⟩ := by kernel_rfl
@[simp] theorem tk_8 : tkOf Try.prog 8 = .struct [(0, 1), (1, 1), (2, 1), (3, 1)] := by kernel_rfl
@[simp] theorem ti_9 : tiOf Try.prog 9 = some ⟨1, false, 16, [.at (.string ByteArray.empty)]⟩ := by kernel_rfl
@[simp] theorem tk_9 : tkOf Try.prog 9 = .string := by kernel_rfl
@[simp] theorem ti_10 : tiOf Try.prog 10 = some ⟨1, false, 16, [.at (.string ByteArray.empty)]⟩ := by kernel_rfl
@[simp] theorem tk_10 : tkOf Try.prog 10 = .string := by kernel_rfl
@[simp] theorem ti_11 : tiOf Try.prog 11 = some ⟨1, false, 16, [.at (.string ByteArray.empty)]⟩ := by kernel_rfl
@[simp] theorem tk_11 : tkOf Try.prog 11 = .string := by kernel_rfl
@[simp] theorem ti_12 : tiOf Try.prog 12 = some ⟨1, false, 8, [.at (.int .u64 0)]⟩ := by kernel_rfl
@[simp] theorem tk_12 : tkOf Try.prog 12 = .int .u64 := by kernel_rfl
@[simp] theorem ti_13 : tiOf Try.prog 13 = some ⟨2, true, 24, [.at (.string ByteArray.empty), .at (.int .u64 0)]⟩ := by kernel_rfl
@[simp] theorem tk_13 : tkOf Try.prog 13 = .struct [(0, 1), (1, 1)] := by kernel_rfl
@[simp] theorem ti_14 : tiOf Try.prog 14 = some ⟨2, true, 24, [.at (.string ByteArray.empty), .at (.int .u64 0)]⟩ := by kernel_rfl
@[simp] theorem tk_14 : tkOf Try.prog 14 = .struct [(0, 1), (1, 1)] := by kernel_rfl
@[simp] theorem ti_15 : tiOf Try.prog 15 = some ⟨1, false, 8, [.at (.pointer none)]⟩ := by kernel_rfl
@[simp] theorem ti_16 : tiOf Try.prog 16 = some ⟨1, false, 8, [.at (.pointer none)]⟩ := by kernel_rfl
@[simp] theorem ti_17 : tiOf Try.prog 17 = some ⟨1, false, 8, [.at (.pointer none)]⟩ := by kernel_rfl
@[simp] theorem ti_18 : tiOf Try.prog 18 = some ⟨1, true, 8, [.at (.pointer none)]⟩ := by kernel_rfl
@[simp] theorem tk_18 : tkOf Try.prog 18 = .struct [(0, 1)] := by kernel_rfl
@[simp] theorem ti_19 : tiOf Try.prog 19 = some ⟨1, true, 8, [.at (.pointer none)]⟩ := by kernel_rfl
@[simp] theorem tk_19 : tkOf Try.prog 19 = .struct [(0, 1)] := by kernel_rfl
@[simp] theorem ti_20 : tiOf Try.prog 20 = some ⟨1, false, 16, [.at .nilIface]⟩ := by kernel_rfl
@[simp] theorem ti_21 : tiOf Try.prog 21 = some ⟨1, false, 4, [.at (.int .i32 0)]⟩ := by kernel_rfl
@[simp] theorem tk_21 : tkOf Try.prog 21 = .int .i32 := by kernel_rfl
@[simp] theorem ti_22 : tiOf Try.prog 22 = some ⟨1, false, 8, [.at (.int .i64 0)]⟩ := by kernel_rfl
@[simp] theorem tk_22 : tkOf Try.prog 22 = .int .i64 := by kernel_rfl
@[simp] theorem ti_23 : tiOf Try.prog 23 = some ⟨1, false, 24, [.nl]⟩ := by kernel_rfl
@[simp] theorem tk_23 : tkOf Try.prog 23 = .slice 22 := by kernel_rfl
@[simp] theorem ti_24 : tiOf Try.prog 24 = some ⟨1, false, 24, [.nl]⟩ := by kernel_rfl
@[simp] theorem tk_24 : tkOf Try.prog 24 = .slice 3 := by kernel_rfl
@[simp] theorem ti_25 : tiOf Try.prog 25 = some ⟨1, false, 8, [.at .nilFunc]⟩ := by kernel_rfl
@[simp] theorem ti_26 : tiOf Try.prog 26 = some ⟨1, false, 8, [.at .nilFunc]⟩ := by kernel_rfl
@[simp] theorem ti_27 : tiOf Try.prog 27 = some ⟨3, true, 40, [.nl, .at (.int .i64 0), .at (.int .i64 0)]⟩ := by kernel_rfl
@[simp] theorem tk_27 : tkOf Try.prog 27 = .struct [(0, 1), (1, 1), (2, 1)] := by kernel_rfl
@[simp] theorem ti_28 : tiOf Try.prog 28 = some ⟨3, true, 40, [.nl, .at (.int .i64 0), .at (.int .i64 0)]⟩ := by kernel_rfl
@[simp] theorem tk_28 : tkOf Try.prog 28 = .struct [(0, 1), (1, 1), (2, 1)] := by kernel_rfl
@[simp] theorem ti_29 : tiOf Try.prog 29 = some ⟨4, true, 48, [.nl, .at (.int .i64 0), .at (.int .i64 0), .at (.int .i64 0)]⟩ := by kernel_rfl
@[simp] theorem tk_29 : tkOf Try.prog 29 = .struct [(0, 3), (3, 1)] := by kernel_rfl
@[simp] theorem ti_30 : tiOf Try.prog 30 = some ⟨4, true, 48, [.nl, .at (.int .i64 0), .at (.int .i64 0), .at (.int .i64 0)]⟩ := by kernel_rfl
@[simp] theorem tk_30 : tkOf Try.prog 30 = .struct [(0, 3), (3, 1)] := by kernel_rfl
@[simp] theorem ti_31 : tiOf Try.prog 31 = some ⟨20, true, 240, [.nl, .at (.int .i64 0), .at (.int .i64 0), .at (.int .i64 0), .nl, .at (.int .i64 0), .at (.int .i64 0), .at (.int .i64 0), .nl, .at (.int .i64 0), .at (.int .i64 0), .at (.int .i64 0), .nl, .at (.int .i64 0), .at (.int .i64 0), .at (.int .i64 0), .nl, .at (.int .i64 0), .at (.int .i64 0), .at (.int .i64 0)]⟩ := by kernel_rfl
@[simp] theorem tk_31 : tkOf Try.prog 31 = .array 5 30 := by kernel_rfl
@[simp] theorem ti_33 : tiOf Try.prog 33 = some ⟨1, false, 8, [.at .nilFunc]⟩ := by kernel_rfl
@[simp] theorem ti_34 : tiOf Try.prog 34 = some ⟨1, false, 8, [.at .nilFunc]⟩ := by kernel_rfl
@[simp] theorem ti_35 : tiOf Try.prog 35 = some ⟨5, true, 40, [.at (.int .i64 0), .at (.int .i64 0), .at (.int .i64 0), .at (.int .i64 0), .at (.int .i64 0)]⟩ := by kernel_rfl
@[simp] theorem tk_35 : tkOf Try.prog 35 = .array 5 3 := by kernel_rfl
@[simp] theorem ti_36 : tiOf Try.prog 36 = some ⟨1, false, 8, [.at .nilFunc]⟩ := by kernel_rfl
@[simp] theorem ti_37 : tiOf Try.prog 37 = some ⟨1, false, 8, [.at .nilFunc]⟩ := by kernel_rfl
@[simp] theorem ti_39 : tiOf Try.prog 39 = some ⟨1, false, 8, [.at .nilFunc]⟩ := by kernel_rfl
@[simp] theorem ti_40 : tiOf Try.prog 40 = some ⟨1, false, 8, [.at .nilFunc]⟩ := by kernel_rfl
@[simp] theorem ti_41 : tiOf Try.prog 41 = some ⟨1, false, 8, [.at .nilFunc]⟩ := by kernel_rfl
@[simp] theorem ti_42 : tiOf Try.prog 42 = some ⟨1, false, 8, [.at .nilFunc]⟩ := by kernel_rfl
@[simp] theorem ti_43 : tiOf Try.prog 43 = some ⟨1, false, 8, [.at .nilFunc]⟩ := by kernel_rfl
@[simp] theorem ti_44 : tiOf Try.prog 44 = some ⟨1, false, 8, [.at .nilFunc]⟩ := by kernel_rfl
@[simp] theorem ti_45 : tiOf Try.prog 45 = some ⟨1, false, 8, [.at .nilFunc]⟩ := by kernel_rfl
@[simp] theorem ti_46 : tiOf Try.prog 46 = some ⟨5, true, 56, [.at (.int .i64 0), .at (.int .i64 0), .at (.int .i64 0), .at (.int .i64 0), .nl]⟩ := by kernel_rfl
@[simp] theorem tk_46 : tkOf Try.prog 46 = .struct [(0, 1), (1, 1), (2, 1), (3, 1), (4, 1)] := by kernel_rfl
@[simp] theorem ti_47 : tiOf Try.prog 47 = some ⟨5, true, 56, [.at (.int .i64 0), .at (.int .i64 0), .at (.int .i64 0), .at (.int .i64 0), .nl]⟩ := by kernel_rfl
@[simp] theorem tk_47 : tkOf Try.prog 47 = .struct [(0, 1), (1, 1), (2, 1), (3, 1), (4, 1)] := by kernel_rfl
@[simp] theorem ti_48 : tiOf Try.prog 48 = some ⟨1, false, 24, [.nl]⟩ := by kernel_rfl
@[simp] theorem tk_48 : tkOf Try.prog 48 = .slice 53 := by kernel_rfl
@[simp] theorem ti_49 : tiOf Try.prog 49 = some ⟨8, true, 96, [.at (.int .i64 0), .at (.bool false), .at (.int .i64 0), .at (.int .i64 0), .at (.int .i64 0), .at (.int .i64 0), .nl, .nl]⟩ := by kernel_rfl
@[simp] theorem tk_49 : tkOf Try.prog 49 = .struct [(0, 1), (1, 1), (2, 5), (7, 1)] := by kernel_rfl
@[simp] theorem ti_50 : tiOf Try.prog 50 = some ⟨8, true, 96, [.at (.int .i64 0), .at (.bool false), .at (.int .i64 0), .at (.int .i64 0), .at (.int .i64 0), .at (.int .i64 0), .nl, .nl]⟩ := by kernel_rfl
@[simp] theorem tk_50 : tkOf Try.prog 50 = .struct [(0, 1), (1, 1), (2, 5), (7, 1)] := by kernel_rfl
@[simp] theorem ti_51 : tiOf Try.prog 51 = some ⟨1, false, 24, [.nl]⟩ := by kernel_rfl
@[simp] theorem tk_51 : tkOf Try.prog 51 = .slice 47 := by kernel_rfl
@[simp] theorem ti_52 : tiOf Try.prog 52 = some ⟨3, true, 40, [.at (.int .i64 0), .at (.int .i64 0), .nl]⟩ := by kernel_rfl
@[simp] theorem tk_52 : tkOf Try.prog 52 = .struct [(0, 1), (1, 1), (2, 1)] := by kernel_rfl
@[simp] theorem ti_53 : tiOf Try.prog 53 = some ⟨3, true, 40, [.at (.int .i64 0), .at (.int .i64 0), .nl]⟩ := by kernel_rfl
@[simp] theorem tk_53 : tkOf Try.prog 53 = .struct [(0, 1), (1, 1), (2, 1)] := by kernel_rfl
@[simp] theorem ti_54 : tiOf Try.prog 54 = some ⟨1, false, 8, [.at .nilFunc]⟩ := by kernel_rfl
@[simp] theorem ti_55 : tiOf Try.prog 55 = some ⟨1, false, 8, [.at .nilFunc]⟩ := by kernel_rfl
@[simp] theorem ti_57 : tiOf Try.prog 57 = some ⟨1, false, 8, [.at .nilFunc]⟩ := by kernel_rfl
@[simp] theorem ti_58 : tiOf Try.prog 58 = some ⟨1, false, 8, [.at .nilFunc]⟩ := by kernel_rfl
@[simp] theorem ti_59 : tiOf Try.prog 59 = some ⟨1, false, 8, [.at .nilFunc]⟩ := by kernel_rfl
@[simp] theorem ti_60 : tiOf Try.prog 60 = some ⟨1, false, 8, [.at .nilFunc]⟩ := by kernel_rfl
@[simp] theorem ti_61 : tiOf Try.prog 61 = some ⟨1, false, 8, [.at .nilFunc]⟩ := by kernel_rfl
@[simp] theorem ti_62 : tiOf Try.prog 62 = some ⟨1, false, 8, [.at .nilFunc]⟩ := by kernel_rfl
@[simp] theorem ti_63 : tiOf Try.prog 63 = some ⟨1, false, 8, [.at .nilFunc]⟩ := by kernel_rfl
@[simp] theorem ti_64 : tiOf Try.prog 64 = some ⟨1, false, 8, [.at .nilFunc]⟩ := by kernel_rfl
@[simp] theorem ti_65 : tiOf Try.prog 65 = some ⟨1, false, 24, [.nl]⟩ := by kernel_rfl
@[simp] theorem tk_65 : tkOf Try.prog 65 = .slice 72 := by kernel_rfl
@[simp] theorem ti_66 : tiOf Try.prog 66 = some ⟨1, false, 8, [.at .nilFunc]⟩ := by kernel_rfl
@[simp] theorem ti_68 : tiOf Try.prog 68 = some ⟨1, false, 8, [.at .nilFunc]⟩ := by kernel_rfl
@[simp] theorem ti_70 : tiOf Try.prog 70 = some ⟨1, false, 8, [.at .nilFunc]⟩ := by kernel_rfl
@[simp] theorem ti_71 : tiOf Try.prog 71 = some ⟨2, true, 32, [.at (.int .i64 0), .nl]⟩ := by kernel_rfl
@[simp] theorem tk_71 : tkOf Try.prog 71 = .struct [(0, 1), (1, 1)] := by kernel_rfl
@[simp] theorem ti_72 : tiOf Try.prog 72 = some ⟨2, true, 32, [.at (.int .i64 0), .nl]⟩ := by kernel_rfl
@[simp] theorem tk_72 : tkOf Try.prog 72 = .struct [(0, 1), (1, 1)] := by kernel_rfl
@[simp] theorem ti_73 : tiOf Try.prog 73 = some ⟨1, false, 8, [.at .nilFunc]⟩ := by kernel_rfl
@[simp] theorem ti_74 : tiOf Try.prog 74 = some ⟨1, false, 8, [.at .nilFunc]⟩ := by kernel_rfl
@[simp] theorem ti_75 : tiOf Try.prog 75 = some ⟨1, false, 8, [.at .nilFunc]⟩ := by kernel_rfl
@[simp] theorem ti_77 : tiOf Try.prog 77 = some ⟨1, false, 8, [.at .nilFunc]⟩ := by kernel_rfl
@[simp] theorem ti_78 : tiOf Try.prog 78 = some ⟨1, false, 8, [.at .nilFunc]⟩ := by kernel_rfl
@[simp] theorem ti_79 : tiOf Try.prog 79 = some ⟨1, false, 8, [.at .nilFunc]⟩ := by kernel_rfl
@[simp] theorem ti_80 : tiOf Try.prog 80 = some ⟨1, false, 8, [.at .nilFunc]⟩ := by kernel_rfl
@[simp] theorem ti_81 : tiOf Try.prog 81 = some ⟨1, false, 8, [.at .nilFunc]⟩ := by kernel_rfl
@[simp] theorem ti_82 : tiOf Try.prog 82 = some ⟨1, false, 8, [.at .nilFunc]⟩ := by kernel_rfl
@[simp] theorem ti_83 : tiOf Try.prog 83 = some ⟨1, false, 8, [.at .nilFunc]⟩ := by kernel_rfl
@[simp] theorem ti_84 : tiOf Try.prog 84 = some ⟨4, true, 64, [.nl, .nl, .at (.int .i64 0), .at (.int .i64 0)]⟩ := by kernel_rfl
@[simp] theorem tk_84 : tkOf Try.prog 84 = .struct [(0, 1), (1, 3)] := by kernel_rfl
@[simp] theorem ti_85 : tiOf Try.prog 85 = some ⟨4, true, 64, [.nl, .nl, .at (.int .i64 0), .at (.int .i64 0)]⟩ := by kernel_rfl
@[simp] theorem tk_85 : tkOf Try.prog 85 = .struct [(0, 1), (1, 3)] := by kernel_rfl
@[simp] theorem ti_87 : tiOf Try.prog 87 = some ⟨1, false, 8, [.at .nilFunc]⟩ := by kernel_rfl
@[simp] theorem ti_88 : tiOf Try.prog 88 = some ⟨1, false, 8, [.at .nilFunc]⟩ := by kernel_rfl
@[simp] theorem ti_89 : tiOf Try.prog 89 = some ⟨1, false, 8, [.at .nilFunc]⟩ := by kernel_rfl
@[simp] theorem ti_90 : tiOf Try.prog 90 = some ⟨1, false, 8, [.at .nilFunc]⟩ := by kernel_rfl
@[simp] theorem ti_91 : tiOf Try.prog 91 = some ⟨1, false, 8, [.at .nilFunc]⟩ := by kernel_rfl
@[simp] theorem ti_92 : tiOf Try.prog 92 = some ⟨1, false, 24, [.nl]⟩ := by kernel_rfl
@[simp] theorem tk_92 : tkOf Try.prog 92 = .slice 104 := by kernel_rfl
@[simp] theorem ti_93 : tiOf Try.prog 93 = some ⟨5, true, 88, [.nl, .nl, .at (.int .i64 0), .at (.int .i64 0), .nl]⟩ := by kernel_rfl
@[simp] theorem tk_93 : tkOf Try.prog 93 = .struct [(0, 4), (4, 1)] := by kernel_rfl
@[simp] theorem ti_94 : tiOf Try.prog 94 = some ⟨5, true, 88, [.nl, .nl, .at (.int .i64 0), .at (.int .i64 0), .nl]⟩ := by kernel_rfl
@[simp] theorem tk_94 : tkOf Try.prog 94 = .struct [(0, 4), (4, 1)] := by kernel_rfl
@[simp] theorem ti_95 : tiOf Try.prog 95 = some ⟨7, true, 72, [.at (.int .i64 0), .at (.int .i64 0), .at (.int .i64 0), .at (.int .i64 0), .at (.int .i64 0), .at (.int .i64 0), .nl]⟩ := by kernel_rfl
@[simp] theorem tk_95 : tkOf Try.prog 95 = .struct [(0, 1), (1, 1), (2, 5)] := by kernel_rfl
@[simp] theorem ti_96 : tiOf Try.prog 96 = some ⟨7, true, 72, [.at (.int .i64 0), .at (.int .i64 0), .at (.int .i64 0), .at (.int .i64 0), .at (.int .i64 0), .at (.int .i64 0), .nl]⟩ := by kernel_rfl
@[simp] theorem tk_96 : tkOf Try.prog 96 = .struct [(0, 1), (1, 1), (2, 5)] := by kernel_rfl
@[simp] theorem ti_97 : tiOf Try.prog 97 = some ⟨1, false, 24, [.nl]⟩ := by kernel_rfl
@[simp] theorem tk_97 : tkOf Try.prog 97 = .slice 96 := by kernel_rfl
@[simp] theorem ti_99 : tiOf Try.prog 99 = some ⟨1, false, 8, [.at .nilFunc]⟩ := by kernel_rfl
@[simp] theorem ti_100 : tiOf Try.prog 100 = some ⟨1, false, 8, [.at .nilFunc]⟩ := by kernel_rfl
@[simp] theorem ti_101 : tiOf Try.prog 101 = some ⟨1, false, 8, [.at .nilFunc]⟩ := by kernel_rfl
@[simp] theorem ti_102 : tiOf Try.prog 102 = some ⟨1, false, 8, [.at .nilFunc]⟩ := by kernel_rfl
@[simp] theorem ti_103 : tiOf Try.prog 103 = some ⟨4, true, 48, [.at (.int .i64 0), .at (.int .i64 0), .at (.int .i64 0), .nl]⟩ := by kernel_rfl
@[simp] theorem tk_103 : tkOf Try.prog 103 = .struct [(0, 1), (1, 3)] := by kernel_rfl
@[simp] theorem ti_104 : tiOf Try.prog 104 = some ⟨4, true, 48, [.at (.int .i64 0), .at (.int .i64 0), .at (.int .i64 0), .nl]⟩ := by kernel_rfl
@[simp] theorem tk_104 : tkOf Try.prog 104 = .struct [(0, 1), (1, 3)] := by kernel_rfl
@[simp] theorem ti_105 : tiOf Try.prog 105 = some ⟨1, false, 8, [.at .nilFunc]⟩ := by kernel_rfl
@[simp] theorem ti_106 : tiOf Try.prog 106 = some ⟨1, false, 8, [.at .nilFunc]⟩ := by kernel_rfl
@[simp] theorem ti_108 : tiOf Try.prog 108 = some ⟨1, false, 8, [.at .nilFunc]⟩ := by kernel_rfl
@[simp] theorem ti_109 : tiOf Try.prog 109 = some ⟨1, false, 8, [.at .nilFunc]⟩ := by kernel_rfl
@[simp] theorem ti_110 : tiOf Try.prog 110 = some ⟨1, false, 8, [.at .nilFunc]⟩ := by kernel_rfl
@[simp] theorem ti_111 : tiOf Try.prog 111 = some ⟨1, false, 8, [.at .nilFunc]⟩ := by kernel_rfl
@[simp] theorem ti_112 : tiOf Try.prog 112 = some ⟨1, false, 8, [.at .nilFunc]⟩ := by kernel_rfl
@[simp] theorem ti_114 : tiOf Try.prog 114 = some ⟨1, false, 8, [.at .nilFunc]⟩ := by kernel_rfl
@[simp] theorem ti_115 : tiOf Try.prog 115 = some ⟨1, false, 8, [.at .nilFunc]⟩ := by kernel_rfl
@[simp] theorem ti_117 : tiOf Try.prog 117 = some ⟨1, false, 8, [.at .nilFunc]⟩ := by kernel_rfl
@[simp] theorem ti_118 : tiOf Try.prog 118 = some ⟨1, false, 8, [.at .nilFunc]⟩ := by kernel_rfl
@[simp] theorem ti_119 : tiOf Try.prog 119 = some ⟨1, false, 8, [.at .nilFunc]⟩ := by kernel_rfl
@[simp] theorem ti_120 : tiOf Try.prog 120 = some ⟨1, false, 8, [.at .nilFunc]⟩ := by kernel_rfl
@[simp] theorem ti_121 : tiOf Try.prog 121 = some ⟨1, false, 8, [.at (.pointer none)]⟩ := by kernel_rfl
@[simp] theorem ti_122 : tiOf Try.prog 122 = some ⟨1, false, 8, [.at .nilFunc]⟩ := by kernel_rfl
@[simp] theorem ti_123 : tiOf Try.prog 123 = some ⟨1, false, 8, [.at .nilFunc]⟩ := by kernel_rfl
@[simp] theorem ti_125 : tiOf Try.prog 125 = some ⟨1, false, 8, [.at .nilFunc]⟩ := by kernel_rfl
@[simp] theorem ti_126 : tiOf Try.prog 126 = some ⟨1, false, 8, [.at .nilFunc]⟩ := by kernel_rfl
@[simp] theorem ti_127 : tiOf Try.prog 127 = some ⟨1, false, 8, [.at .nilFunc]⟩ := by kernel_rfl
@[simp] theorem ti_128 : tiOf Try.prog 128 = some ⟨1, false, 8, [.at .nilFunc]⟩ := by kernel_rfl
@[simp] theorem ti_129 : tiOf Try.prog 129 = some ⟨1, false, 8, [.at .nilFunc]⟩ := by kernel_rfl
@[simp] theorem ti_130 : tiOf Try.prog 130 = some ⟨1, false, 8, [.at .nilFunc]⟩ := by kernel_rfl
@[simp] theorem ti_131 : tiOf Try.prog 131 = some ⟨4, true, 4, [.at (.bool false), .at (.bool false), .at (.bool false), .at (.bool false)]⟩ := by kernel_rfl
@[simp] theorem tk_131 : tkOf Try.prog 131 = .array 4 4 := by kernel_rfl
@[simp] theorem ti_132 : tiOf Try.prog 132 = some ⟨1, false, 8, [.at .nilFunc]⟩ := by kernel_rfl
@[simp] theorem ti_133 : tiOf Try.prog 133 = some ⟨1, false, 8, [.at .nilFunc]⟩ := by kernel_rfl
@[simp] theorem ti_134 : tiOf Try.prog 134 = some ⟨1, false, 8, [.at .nilFunc]⟩ := by kernel_rfl
@[simp] theorem ti_135 : tiOf Try.prog 135 = some ⟨1, false, 8, [.at .nilFunc]⟩ := by kernel_rfl
@[simp] theorem ti_136 : tiOf Try.prog 136 = some ⟨1, false, 8, [.at .nilFunc]⟩ := by kernel_rfl
@[simp] theorem ti_137 : tiOf Try.prog 137 = some ⟨1, false, 8, [.at .nilFunc]⟩ := by kernel_rfl
@[simp] theorem ti_138 : tiOf Try.prog 138 = some ⟨1, false, 8, [.at .nilFunc]⟩ := by kernel_rfl
@[simp] theorem ti_139 : tiOf Try.prog 139 = some ⟨1, false, 8, [.at (.pointer none)]⟩ := by kernel_rfl
@[simp] theorem ti_141 : tiOf Try.prog 141 = some ⟨1, false, 8, [.at .nilFunc]⟩ := by kernel_rfl
@[simp] theorem ti_142 : tiOf Try.prog 142 = some ⟨1, false, 8, [.at .nilFunc]⟩ := by kernel_rfl
@[simp] theorem ti_143 : tiOf Try.prog 143 = some ⟨1, false, 8, [.at .nilFunc]⟩ := by kernel_rfl
@[simp] theorem ti_144 : tiOf Try.prog 144 = some ⟨1, false, 8, [.at .nilFunc]⟩ := by kernel_rfl
@[simp] theorem ti_146 : tiOf Try.prog 146 = some ⟨1, false, 8, [.at .nilFunc]⟩ := by kernel_rfl
@[simp] theorem ti_147 : tiOf Try.prog 147 = some ⟨1, false, 8, [.at .nilFunc]⟩ := by kernel_rfl
@[simp] theorem ti_148 : tiOf Try.prog 148 = some ⟨1, false, 8, [.at .nilFunc]⟩ := by kernel_rfl
@[simp] theorem ti_149 : tiOf Try.prog 149 = some ⟨1, false, 8, [.at .nilFunc]⟩ := by kernel_rfl
@[simp] theorem ti_151 : tiOf Try.prog 151 = some ⟨1, false, 8, [.at .nilFunc]⟩ := by kernel_rfl
@[simp] theorem ti_152 : tiOf Try.prog 152 = some ⟨1, false, 8, [.at .nilFunc]⟩ := by kernel_rfl
@[simp] theorem ti_153 : tiOf Try.prog 153 = some ⟨1, false, 8, [.at .nilFunc]⟩ := by kernel_rfl
@[simp] theorem ti_154 : tiOf Try.prog 154 = some ⟨1, false, 8, [.at (.pointer none)]⟩ := by kernel_rfl
@[simp] theorem ti_155 : tiOf Try.prog 155 = some ⟨1, false, 8, [.at .nilFunc]⟩ := by kernel_rfl
@[simp] theorem ti_156 : tiOf Try.prog 156 = some ⟨1, false, 8, [.at .nilFunc]⟩ := by kernel_rfl
@[simp] theorem ti_157 : tiOf Try.prog 157 = some ⟨1, false, 8, [.at .nilFunc]⟩ := by kernel_rfl
@[simp] theorem ti_158 : tiOf Try.prog 158 = some ⟨1, false, 8, [.at .nilFunc]⟩ := by kernel_rfl
@[simp] theorem ti_159 : tiOf Try.prog 159 = some ⟨1, false, 8, [.at .nilFunc]⟩ := by kernel_rfl
@[simp] theorem ti_160 : tiOf Try.prog 160 = some ⟨2, true, 24, [.at (.string ByteArray.empty), .at (.bool false)]⟩ := by kernel_rfl
@[simp] theorem tk_160 : tkOf Try.prog 160 = .struct [(0, 1), (1, 1)] := by kernel_rfl
@[simp] theorem ti_161 : tiOf Try.prog 161 = some ⟨1, false, 24, [.nl]⟩ := by kernel_rfl
@[simp] theorem tk_161 : tkOf Try.prog 161 = .slice 160 := by kernel_rfl
@[simp] theorem ti_162 : tiOf Try.prog 162 = some ⟨1, false, 8, [.at .nilFunc]⟩ := by kernel_rfl
@[simp] theorem ti_163 : tiOf Try.prog 163 = some ⟨1, false, 8, [.at .nilFunc]⟩ := by kernel_rfl
@[simp] theorem ti_164 : tiOf Try.prog 164 = some ⟨1, false, 24, [.nl]⟩ := by kernel_rfl
@[simp] theorem tk_164 : tkOf Try.prog 164 = .slice 24 := by kernel_rfl
@[simp] theorem ti_165 : tiOf Try.prog 165 = some ⟨1, false, 8, [.at .nilFunc]⟩ := by kernel_rfl
@[simp] theorem ti_166 : tiOf Try.prog 166 = some ⟨1, false, 8, [.at .nilFunc]⟩ := by kernel_rfl
@[simp] theorem ti_167 : tiOf Try.prog 167 = some ⟨1, false, 8, [.at .nilFunc]⟩ := by kernel_rfl
@[simp] theorem ti_168 : tiOf Try.prog 168 = some ⟨1, false, 8, [.at .nilFunc]⟩ := by kernel_rfl
@[simp] theorem ti_169 : tiOf Try.prog 169 = some ⟨1, false, 8, [.at .nilFunc]⟩ := by kernel_rfl
@[simp] theorem ti_170 : tiOf Try.prog 170 = some ⟨1, false, 8, [.at .nilFunc]⟩ := by kernel_rfl
@[simp] theorem ti_171 : tiOf Try.prog 171 = some ⟨1, false, 8, [.at .nilFunc]⟩ := by kernel_rfl
@[simp] theorem ti_172 : tiOf Try.prog 172 = some ⟨1, false, 24, [.nl]⟩ := by kernel_rfl
@[simp] theorem tk_172 : tkOf Try.prog 172 = .slice 9 := by kernel_rfl
@[simp] theorem ti_173 : tiOf Try.prog 173 = some ⟨1, false, 8, [.at .nilFunc]⟩ := by kernel_rfl
@[simp] theorem ti_174 : tiOf Try.prog 174 = some ⟨1, false, 8, [.at .nilFunc]⟩ := by kernel_rfl
@[simp] theorem ti_175 : tiOf Try.prog 175 = some ⟨1, false, 8, [.at .nilFunc]⟩ := by kernel_rfl
@[simp] theorem ti_176 : tiOf Try.prog 176 = some ⟨1, false, 8, [.at .nilFunc]⟩ := by kernel_rfl
@[simp] theorem ti_177 : tiOf Try.prog 177 = some ⟨1, false, 8, [.at .nilFunc]⟩ := by kernel_rfl
@[simp] theorem ti_178 : tiOf Try.prog 178 = some ⟨1, false, 8, [.at (.int .u64 0)]⟩ := by kernel_rfl
@[simp] theorem tk_178 : tkOf Try.prog 178 = .int .u64 := by kernel_rfl
@[simp] theorem ti_179 : tiOf Try.prog 179 = some ⟨1, false, 4, [.at (.int .u32 0)]⟩ := by kernel_rfl
@[simp] theorem tk_179 : tkOf Try.prog 179 = .int .u32 := by kernel_rfl
@[simp] theorem ti_181 : tiOf Try.prog 181 = some ⟨1, false, 8, [.at .nilFunc]⟩ := by kernel_rfl
@[simp] theorem ti_182 : tiOf Try.prog 182 = some ⟨1, false, 8, [.at .nilFunc]⟩ := by kernel_rfl
@[simp] theorem ti_183 : tiOf Try.prog 183 = some ⟨4, true, 40, [.at (.pointer none), .at (.pointer none), .at (.pointer none), .at (.string ByteArray.empty)]⟩ := by kernel_rfl
@[simp] theorem tk_183 : tkOf Try.prog 183 = .struct [(0, 1), (1, 1), (2, 1), (3, 1)] := by kernel_rfl
@[simp] theorem ti_184 : tiOf Try.prog 184 = some ⟨4, true, 40, [.at (.pointer none), .at (.pointer none), .at (.pointer none), .at (.string ByteArray.empty)]⟩ := by kernel_rfl
@[simp] theorem tk_184 : tkOf Try.prog 184 = .struct [(0, 1), (1, 1), (2, 1), (3, 1)] := by kernel_rfl
@[simp] theorem ti_185 : tiOf Try.prog 185 = some ⟨0, true, 0, []⟩ := by kernel_rfl
@[simp] theorem tk_185 : tkOf Try.prog 185 = .array 0 16 := by kernel_rfl
@[simp] theorem ti_186 : tiOf Try.prog 186 = some ⟨0, true, 0, []⟩ := by kernel_rfl
@[simp] theorem tk_186 : tkOf Try.prog 186 = .struct [(0, 0)] := by kernel_rfl
@[simp] theorem ti_187 : tiOf Try.prog 187 = some ⟨0, true, 0, []⟩ := by kernel_rfl
@[simp] theorem tk_187 : tkOf Try.prog 187 = .struct [(0, 0)] := by kernel_rfl
@[simp] theorem ti_188 : tiOf Try.prog 188 = some ⟨1, false, 8, [.at .nilFunc]⟩ := by kernel_rfl
@[simp] theorem ti_189 : tiOf Try.prog 189 = some ⟨1, false, 1, [.at (.int .u8 0)]⟩ := by kernel_rfl
@[simp] theorem tk_189 : tkOf Try.prog 189 = .int .u8 := by kernel_rfl
@[simp] theorem ti_190 : tiOf Try.prog 190 = some ⟨1, false, 1, [.at (.int .u8 0)]⟩ := by kernel_rfl
@[simp] theorem tk_190 : tkOf Try.prog 190 = .int .u8 := by kernel_rfl
@[simp] theorem ti_191 : tiOf Try.prog 191 = some ⟨1, false, 8, [.at .nilFunc]⟩ := by kernel_rfl
@[simp] theorem ti_192 : tiOf Try.prog 192 = some ⟨1, false, 8, [.at (.pointer none)]⟩ := by kernel_rfl
@[simp] theorem ti_193 : tiOf Try.prog 193 = some ⟨1, false, 4, [.at (.int .i32 0)]⟩ := by kernel_rfl
@[simp] theorem tk_193 : tkOf Try.prog 193 = .int .i32 := by kernel_rfl
@[simp] theorem ti_194 : tiOf Try.prog 194 = some ⟨1, false, 4, [.at (.int .i32 0)]⟩ := by kernel_rfl
@[simp] theorem tk_194 : tkOf Try.prog 194 = .int .i32 := by kernel_rfl
@[simp] theorem ti_195 : tiOf Try.prog 195 = some ⟨11, true, 48, [.at (.int .u64 0), .at (.int .u64 0), .at (.int .u32 0), .at (.int .u8 0), .at (.int .u8 0), .at (.int .u8 0), .at (.int .u8 0), .at .nilFunc, .at (.pointer none), .at (.int .i32 0), .at (.int .i32 0)]⟩ := by kernel_rfl
@[simp] theorem tk_195 : tkOf Try.prog 195 = .struct [(0, 1), (1, 1), (2, 1), (3, 1), (4, 1), (5, 1), (6, 1), (7, 1), (8, 1), (9, 1), (10, 1)] := by kernel_rfl
@[simp] theorem ti_196 : tiOf Try.prog 196 = some ⟨11, true, 48, [.at (.int .u64 0), .at (.int .u64 0), .at (.int .u32 0), .at (.int .u8 0), .at (.int .u8 0), .at (.int .u8 0), .at (.int .u8 0), .at .nilFunc, .at (.pointer none), .at (.int .i32 0), .at (.int .i32 0)]⟩ := by kernel_rfl
@[simp] theorem tk_196 : tkOf Try.prog 196 = .struct [(0, 1), (1, 1), (2, 1), (3, 1), (4, 1), (5, 1), (6, 1), (7, 1), (8, 1), (9, 1), (10, 1)] := by kernel_rfl
@[simp] theorem ti_197 : tiOf Try.prog 197 = some ⟨1, false, 8, [.at (.pointer none)]⟩ := by kernel_rfl
end Go.Proofs.Ytdjdjnmccphbjaa.E
