/- D1: Da: desks: checked, compared, new. Db: desk.zones. -/
import Derived.Test.YtadmfokicjjglaaGreatDoorYm
import Derived.Test.YtadmfokicjjglaaGreatDoorY1
import Derived.Test.YtadmfokicjjglaaGreatDoorL1
import Derived.Test.YtadmfokicjjglaaGreatDoorSp
import Derived.Test.YtadmfokicjjglaaGreatDoorX3
namespace Go.Proofs.YtadmfokicjjglaaGreatDoor.E
open Go.RowKit Go.Proofs
set_option maxRecDepth 100000
set_option maxHeartbeats 1000000
set_option linter.unusedSimpArgs false
set_option linter.unusedVariables false
abbrev deskC (fr : Bool) (d : S.Desk) : List AV := [.lst fr 2 (d.zs.map (zoneC false)), .lst fr 1 (I d.b.k), .at (.int .i64 d.b.h), .at (.int .i64 d.b.t)]
theorem desk_Check (d : S.Desk) : C Tryz.prog 150 [.agg (deskC false d)] (Int' (S.checkDesk d)) [] := by
 obtain ⟨zs, b⟩ := d;obtain ⟨r, hr⟩ : ∃ r, S.checkDesk ⟨zs, b⟩ = r := ⟨_, rfl⟩;rw [hr];unfold S.checkDesk at hr;simp only at hr;replace hr := hid hr;refine CI Tryz.func150 ?_;refine rC (yard_Check zs) ?_;refine rN ?_;by_cases h1 : S.checkZones zs = 0
 ·have hr2 := hr.out;rw [if_neg (by simp [h1])] at hr2;clear hr;subst hr2;refine rD h1 (book_Check b) ?_;refine rN ?_;exact ends_int rfl
 ·refine rS h1 ?_;exact ends_int (by rw [<- hr.out, if_pos h1])
theorem book_SameD (a b : S.Book) : C Tryz.prog 124 [Bk a, Bk b] (Bool' (decide (a = b))) [] := by
 refine CI Tryz.func124 ?_;refine rC (int_equal a.k b.k) ?_;refine rN ?_;exact ends_eq (by cases a; cases b; simp [and_assoc])
theorem ref_SameBookD (a b : S.Book) : C Tryz.prog 120 [Bk a, Bk b] (Bool' (decide (a = b))) [] := by
 refine CI Tryz.func120 ?_;refine rC (int_equal a.k b.k) ?_;refine rN ?_;exact ends_eq (by cases a; cases b; simp [and_assoc])
theorem desk_Same (a b : S.Desk) : C Tryz.prog 91 [.agg (deskC false a), .agg (deskC false b)] (Bool' (decide (a = b))) [] := by
 refine CI Tryz.func91 ?_;refine rC (yard_Same a.zs b.zs) ?_;refine rN ?_;refine guardC_C (book_SameD a.b b.b) (by first | rfl | (simp -dsimp -implicitDefEqProofs; done)) (by first | exact Or.inr (by rfl) | exact Or.inl (by rfl)) ?_;refine rN ?_;exact ends_eq (by cases a; cases b; simp)
theorem ref_SameDesk (a b : S.Desk) : C Tryz.prog 85 [.agg (deskC false a), .agg (deskC false b)] (Bool' (decide (a = b))) [] := by
 refine CI Tryz.func85 ?_;refine rC (ref_SameZones a.zs b.zs) ?_;refine rN ?_;refine guardC_C (ref_SameBookD a.b b.b) (by first | rfl | (simp -dsimp -implicitDefEqProofs; done)) (by first | exact Or.inr (by rfl) | exact Or.inl (by rfl)) ?_;refine rN ?_;exact ends_eq (by cases a; cases b; simp)
theorem desk_New : C Tryz.prog 95 [] (.agg (deskC true S.Desk.new)) [] := by
 refine CI Tryz.func95 ?_;refine rC yard_New ?_;refine rC book_New ?_;refine rN ?_;exact ends_agg outL
theorem ends_la {h : Heap} {n : Nat} {c target : AV} {cells target2 : List AV} (ho : OutL h [c] [target]) (hq : OutL h cells target2) : Ends [] (.tup [target, .agg target2]) [] h n (.tup [c, .agg cells]) := by
 obtain ⟨cells', ho, hs⟩ := ho;obtain ⟨q', hq, hqs⟩ := hq;cases hc : outLeaf h [] c with
 | none => rw [List.mapM_cons, hc] at ho; cases ho
 | some c' =>
  rw [List.mapM_cons, hc] at ho;simp at ho;subst ho;refine ⟨⟨.tup [c', .agg q'], ?_, .tup (.cons (.leaf (hs.2 0 _ _ rfl rfl)) (.cons (.agg hqs) (.nil _)))⟩, rfl⟩
  have e1 : outAgg h [] (.agg cells) = some (.agg q') := by
   show (cells.mapM (outLeaf h [])).map AV.agg = _;rw [hq]; rfl
  show (List.mapM (outAgg h []) [c, .agg cells]).map AV.tup = _;rw [List.mapM_cons, outAgg_leaf hc, List.mapM_cons, e1];rfl
theorem desk_zones1 (zs : List S.Zone) (z n p : Int) (d : List Int) : C Tryz.prog 157 [.lst false 2 (zs.map (zoneC false)), .agg (cmdC false ⟨1, z, n, p, d⟩)] (.tup [.lst true 2 ((S.holdZ zs z).1.map (zoneC false)), .agg (ansC true ⟨(S.holdZ zs z).2, 0, []⟩)]) [] := by
 have c1 := yard_Hold zs z;generalize S.holdZ zs z = r at *;obtain ⟨m, e⟩ := r;simp only at c1;replace c1 := hid c1;refine CI Tryz.func157 ?_;refine rC c1.out ?_;refine rN ?_;exact ends_la outL outL
theorem desk_zones2 (zs : List S.Zone) (z n p : Int) (d : List Int) : C Tryz.prog 157 [.lst false 2 (zs.map (zoneC false)), .agg (cmdC false ⟨2, z, n, p, d⟩)] (.tup [.lst true 2 ((S.closeZ zs z).1.map (zoneC false)), .agg (ansC true ⟨(S.closeZ zs z).2, 0, []⟩)]) [] := by
 have c1 := yard_Close zs z;generalize S.closeZ zs z = r at *;obtain ⟨m, e⟩ := r;simp only at c1;replace c1 := hid c1;refine CI Tryz.func157 ?_;refine rC c1.out ?_;refine rN ?_;exact ends_la outL outL
theorem desk_zones3 (zs : List S.Zone) (z n p : Int) (d : List Int) : C Tryz.prog 157 [.lst false 2 (zs.map (zoneC false)), .agg (cmdC false ⟨3, z, n, p, d⟩)] (.tup [.lst true 2 ((S.finishZ zs z).1.map (zoneC false)), .agg (ansC true ⟨(S.finishZ zs z).2, 0, []⟩)]) [] := by
 have c1 := yard_Finish zs z;generalize S.finishZ zs z = r at *;obtain ⟨m, e⟩ := r;simp only at c1;replace c1 := hid c1;refine CI Tryz.func157 ?_;refine rC c1.out ?_;refine rN ?_;exact ends_la outL outL
theorem desk_zones4 (zs : List S.Zone) (z n p : Int) (d : List Int) : C Tryz.prog 157 [.lst false 2 (zs.map (zoneC false)), .agg (cmdC false ⟨4, z, n, p, d⟩)] (.tup [.lst true 2 ((S.resetZ zs z).1.map (zoneC false)), .agg (ansC true ⟨(S.resetZ zs z).2, 0, []⟩)]) [] := by
 have c1 := yard_Reset zs z;generalize S.resetZ zs z = r at *;obtain ⟨m, e⟩ := r;simp only at c1;replace c1 := hid c1;refine CI Tryz.func157 ?_;refine rC c1.out ?_;refine rN ?_;exact ends_la outL outL
theorem desk_zones5 (zs : List S.Zone) (z n p : Int) (d : List Int) : C Tryz.prog 157 [.lst false 2 (zs.map (zoneC false)), .agg (cmdC false ⟨5, z, n, p, d⟩)] (.tup [.lst true 2 ((S.writeZ zs z d).1.map (zoneC false)), .agg (ansC true ⟨(S.writeZ zs z d).2.2, (S.writeZ zs z d).2.1, []⟩)]) [] := by
 have c1 := yard_Write zs z d;generalize S.writeZ zs z d = r at *;obtain ⟨m, a, e⟩ := r;simp only at c1;replace c1 := hid c1;refine CI Tryz.func157 ?_;refine rC c1.out ?_;refine rN ?_;exact ends_la outL outL
theorem desk_zones6 (zs : List S.Zone) (z n p : Int) (d : List Int) (hz : 0 <= z) : C Tryz.prog 157 [.lst false 2 (zs.map (zoneC false)), .agg (cmdC false ⟨6, z, n, p, d⟩)] (.tup [.lst true 2 ((S.deskZones zs ⟨6, z, n, p, d⟩).1.map (zoneC false)), .agg (ansC true (S.deskZones zs ⟨6, z, n, p, d⟩).2)]) [] := by
 obtain ⟨r, hr⟩ : ∃ r, S.deskZones zs ⟨6, z, n, p, d⟩ = r := ⟨_, rfl⟩;rw [hr];unfold S.deskZones at hr;simp only at hr;rw [if_neg (by decide), if_neg (by decide), if_neg (by decide), if_neg (by decide)] at hr;obtain ⟨i, rfl⟩ : ∃ i : Nat, z = i := ⟨z.toNat, by omega⟩;have c1 := yard_Write zs i d;simp only [Int.toNat_natCast] at hr;generalize S.writeZ zs i d = w at *;obtain ⟨m, a, e⟩ := w;simp only at c1 hr;replace c1 := hid c1;by_cases hi : i < zs.length
 ·obtain ⟨y, hy⟩ : ∃ y, zs[i]? = some y := ⟨zs[i], by simp⟩;rw [getD_of hy] at hr;by_cases hp : p = y.d.length
  ·rw [if_neg (by simp [hp]), if_pos (by simp)] at hr;subst hr;subst hp;refine CI Tryz.func157 ?_;refine rD (aN hi hy) c1.out ?_;refine rN ?_;exact ends_la outL outL
  ·rw [if_pos (by simp [hp]; omega)] at hr;subst hr;refine CI Tryz.func157 ?_;refine rS (aN hi (aN hy hp)) ?_;exact ends_la outL outL
 ·rw [if_neg (by rintro ⟨-, g, -⟩; omega), if_pos (by simp)] at hr;subst hr;refine CI Tryz.func157 ?_;refine rD hi c1.out ?_;refine rN ?_;exact ends_la outL outL
end Go.Proofs.YtadmfokicjjglaaGreatDoor.E
