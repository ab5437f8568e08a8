
/- Qw: law.WorldDoes. -/
import Derived.Test.YtadmfokicjjglaaGreatDoorQg
import Derived.Test.YtadmfokicjjglaaGreatDoorP3
import Derived.Test.YtadmfokicjjglaaGreatDoorX3
namespace Go.Proofs.YtadmfokicjjglaaGreatDoor.E
open Go.RowKit Go.Proofs
set_option linter.unusedVariables false
set_option linter.unusedSimpArgs false
set_option maxRecDepth 100000
set_option maxHeartbeats 4000000
theorem same_worldZ {w : S.World} (h : w = S.World.zero) : C Tryz.prog 11 [.agg (worldC false w), .agg [.nl, .nl, Int' 0, Int' 0, .nl, .nl, .nl, Bool' false, .nl, .nl]] (Bool' true) [] := by
 have := ref_SameWorld w S.World.zero;rw [decide_eq_true h] at this;exact this.args (.cons (.refl _) (.cons (.agg (.cons .nl (.cons .nl (.cons (.refl _) (.cons (.refl _) (.cons .nl (.cons .nl (.cons .nl (.cons (.refl _) (.cons .nl (.cons .nl (.nil _)))))))))))) (.nil _)))
theorem same_world1 (w : S.World) : C Tryz.prog 11 [.agg (worldC false w), .agg (worldC false w)] (Bool' true) [] := by
 have := ref_SameWorld w w;rwa [decide_eq_true rfl] at this
theorem ref_happen_eq {w : S.World} {x : S.Hap} {l : List S.Rec} {q : S.World × Int} (hok : OkW w l) (h : S.happen w x = q) : C Tryz.prog 14 [.agg (worldC false w), .agg (hapC false x)] (happR q) [] := h ▸ ref_Happened w x hok
theorem law_WorldDoes (w : S.World) (x : S.Hap) (v : S.World) : C Tryz.prog 3 [.agg (worldC false w), .agg (hapC false x), .agg (worldC false v)] (Bool' true) [] := by
 obtain ⟨⟨y, f⟩, hd⟩ : ∃ q, S.doWorld w x = q := ⟨_, rfl⟩;have c1 := hid (doW_eq hd);have c2 := ref_CheckWorld w;have c3 := world_Check w;obtain ⟨b, hb⟩ : ∃ b, decide (w = v) = b := ⟨_, rfl⟩;have c4 := world_Same w v;have c5 := ref_SameWorld w v;rw [hb] at c4 c5;replace c4 := hid c4;replace c5 := hid c5;have c6 := hid (same_world1 S.World.new);clear hb;unfold S.doWorld at hd;by_cases hc : S.checkWorld w = 0
 rotate_left
 ·rw [if_pos hc] at hd;generalize S.checkWorld w = e at *;obtain ⟨hy, rfl⟩ := Prod.mk.inj hd;have hc' : decide (e = 0) = false := by simp [hc]
  have c7 := hid (same_worldZ hy.symm);replace c2 := hid c2;replace c3 := hid c3;clear hd hy;refine CI Tryz.func3 ?_;refine rC c1.out ?_;refine rC c2.out ?_;refine rC law_asked ?_;refine rC c3.out ?_;refine rD (aN hc' hc) c4.out ?_;refine rC c5.out ?_;refine rC world_New ?_;refine rC ref_Fresh ?_;refine rC c6.out ?_;refine rD (aN hc' hc) c7.out ?_;refine rN ?_;exact ends_bool rfl
 ·rw [if_neg (by simp [hc])] at hd;obtain ⟨L, hok⟩ := check_okW hc;obtain ⟨⟨V, e⟩, hV⟩ : ∃ q, S.happen w x = q := ⟨_, rfl⟩;have c7 := ref_happen_eq hok hV;rw [hV] at hd
  have hy : y = (if e = 0 then V else S.World.zero) /\ f = e := by
   simp only at hd;by_cases h : e = 0
   ·rw [if_neg (by simp [h])] at hd; rw [if_pos h]
    obtain ⟨h1, h2⟩ := Prod.mk.inj hd;exact ⟨h1.symm, by omega⟩
   ·rw [if_pos h] at hd; rw [if_neg h]
    obtain ⟨h1, h2⟩ := Prod.mk.inj hd;exact ⟨h1.symm, h2.symm⟩
  unfold happR at c7;simp only at c7;rw [<- hy.1, <- hy.2] at c7;rw [hc] at c2 c3;have c8 := hid (same_world1 y);replace c2 := hid c2;replace c3 := hid c3;replace c7 := hid c7;clear hd hy hV hok hc;refine CI Tryz.func3 ?_;refine rC c1.out ?_;refine rC c2.out ?_;refine rC law_asked ?_;refine rC c3.out ?_;refine rC c4.out ?_;refine rC c5.out ?_;refine rC world_New ?_;refine rC ref_Fresh ?_;refine rC c6.out ?_;refine rC c7.out ?_;refine rC c8.out ?_;refine rN ?_;exact ends_bool rfl
end Go.Proofs.YtadmfokicjjglaaGreatDoor.E
