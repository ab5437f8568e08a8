/- Y3: Yo: the reference's moves on zones; law.YardSays. Yp: the reference's moves on zones, whatever blocks come with them. -/
import Derived.Test.YtadmfokicjjglaaGreatDoorYm
import Derived.Test.YtadmfokicjjglaaGreatDoorX3
namespace Go.Proofs.YtadmfokicjjglaaGreatDoor.E
open Go.RowKit Go.Proofs
set_option maxRecDepth 100000
set_option maxHeartbeats 1000000
set_option linter.unusedSimpArgs false
set_option linter.unusedVariables false
theorem onz_bad (e : Int) : C Tryz.prog 163 [Int' e] (.tup [.nl, Int' 0, Int' e]) [] := by
 refine CI Tryz.func163 ?_;refine rN ?_;exact ⟨⟨_, rfl, Sub.refl _⟩, rfl⟩
theorem onz_bad5 (zs : List S.Zone) (k : Int) (data : List Int) (h : S.readyZ zs k ≠ 0) : C Tryz.prog 133 [.lst false 2 (zs.map (zoneC false)), Int' 5, Int' k, .lst false 1 (I data)] (.tup [.lst false 2 [], Int' 0, Int' (S.readyZ zs k)]) [] := by
 obtain ⟨r, hr⟩ : ∃ r, S.readyZ zs k = r := ⟨_, rfl⟩;rw [hr] at h ⊢;unfold S.readyZ at hr;replace hr := hid hr;refine CI Tryz.func133 ?_;refine rC (ref_CheckZones zs) ?_;refine rN ?_;by_cases h1 : S.checkZones zs = 0
 rotate_left
 ·obtain rfl : S.checkZones zs = r := by rw [<- hr.out, if_pos (by simpa using h1)]
  refine rD h1 (onz_bad (S.checkZones zs)) ?_;refine rN ?_;exact ends_l3 (OutL.nl (OutL.nil _)) rfl rfl
 have hr2 := hr.out;rw [if_neg (by simp [h1])] at hr2
 have hk : k < 0 \/ 4 <= k := by
  by_cases g : k < 0 \/ 4 <= k
  ·exact g
  ·rw [if_neg g] at hr2; exact absurd hr2.symm h
 rw [if_pos hk] at hr2;subst hr2;have hk' : (decide (0 <= k) && decide (k <= 3)) = false := by simp; omega
 clear hr;refine rD h1 (ref_in k 0 3) ?_;rw [hk'];refine rC (onz_bad 5) ?_;refine rN ?_;exact ends_l3 (OutL.nl (OutL.nil _)) rfl rfl
theorem ref_onz5 (zs : List S.Zone) (k : Int) (data : List Int) : C Tryz.prog 133 [.lst false 2 (zs.map (zoneC false)), Int' 5, Int' k, .lst false 1 (I data)] (.tup [.lst false 2 ((S.writeZ zs k data).1.map (zoneC false)), Int' (S.writeZ zs k data).2.1, Int' (S.writeZ zs k data).2.2]) [] := by
 by_cases h : S.readyZ zs k = 0
 ·obtain ⟨h1, n, z, rfl, hn, hz⟩ := ready_parts h;have hl := (checkZones_parts h1).1;have ha := (checkZones_parts h1).2.2.2
  have hr : S.writeZ zs n data = if (S.writeZone z data).2 ≠ 0 then ([], 0, (S.writeZone z data).2) else if (S.room zs n).2 ≠ 0 then ([], 0, (S.room zs n).2) else ((S.room zs n).1.set n (S.writeZone z data).1, (z.d.length : Int), (0 : Int)) := by
   unfold S.writeZ;rw [if_neg (by simp [h])];simp [hz]
  obtain ⟨r, hr0⟩ : ∃ r, S.writeZ zs n data = r := ⟨_, rfl⟩;rw [hr0] at hr ⊢;clear hr0;have hwr := ref_WriteZone z data;generalize S.writeZone z data = ww at *;obtain ⟨⟨st', d'⟩, f⟩ := ww;simp only at hwr;replace hwr := hid hwr;obtain ⟨g1, g2⟩ := room_get hz;have hroom := ref_roomFor zs n z hz hl ha;unfold roomR at hroom;generalize S.room zs n = rr at *;obtain ⟨l', e⟩ := rr;simp only at g1 g2 hr hroom;rw [hl] at g2;have hcl2 := clone_zones (l'.map (zoneC false)) (by simp; omega) (plain_map (fun _ => rfl) _);simp only [List.length_map] at hcl2;have hnl2 : n < l'.length := by omega
  replace hcl2 := hid hcl2;replace hroom := hid hroom;replace hr := hid hr;have hnl : n < zs.length := by omega
  have hcl := clone_zones (zs.map (zoneC false)) (by simp; omega) (plain_map (fun _ => rfl) _);simp only [List.length_map] at hcl;replace hcl := hid hcl;have hk' : (decide (0 <= (n : Int)) && decide ((n : Int) <= 3)) = true := by simp; omega
  have hin := ref_in (n : Int) 0 3;rw [hk'] at hin;replace hin := hid hin;replace hl := hid hl;replace ha := hid ha;refine CI Tryz.func133 ?_;refine rC (ref_CheckZones zs) ?_;refine rD h1 hin.out ?_;refine rD hz hwr.out ?_;refine rN ?_;by_cases hf : f = 0
  rotate_left
  ·obtain rfl : r = ([], 0, f) := by rw [hr.out, if_pos (by simpa using hf)]
   clear hr hroom;refine rD hf (onz_bad f) ?_;refine rN ?_;exact ends_l3 (OutL.nl (OutL.nil _)) rfl rfl
  subst hf;refine rC hroom.out ?_;refine rN ?_;by_cases he : e = 0
  ·subst he;obtain rfl : r = (l'.set n ⟨st', d'⟩, (z.d.length : Int), 0) := by rw [hr.out, if_neg (by simp), if_neg (by simp)]
   clear hr hroom;refine rC hcl2.out ?_;refine rS (aN hnl2 g1) ?_;exact ends_l3 (OutL.zonesS rfl ⟨rfl, rfl⟩ (.inl rfl) (by simp) (OutL.nil _)) rfl rfl
  ·obtain rfl : r = ([], 0, e) := by rw [hr.out, if_neg (by simp), if_pos (by simpa using he)]
   clear hr hroom;refine rD he (onz_bad e) ?_;refine rN ?_;exact ends_l3 (OutL.nl (OutL.nil _)) rfl rfl
 ·have hr : S.writeZ zs k data = ([], 0, S.readyZ zs k) := by unfold S.writeZ; rw [if_pos h]
  rw [hr];exact onz_bad5 zs k data h
theorem onzd_bad1 (zs : List S.Zone) (k : Int) (data : List Int) (h : S.readyZ zs k ≠ 0) : C Tryz.prog 133 [.lst false 2 (zs.map (zoneC false)), Int' 1, Int' k, .lst false 1 (I data)] (.tup [.lst false 2 [], Int' 0, Int' (S.readyZ zs k)]) [] := by
 obtain ⟨r, hr⟩ : ∃ r, S.readyZ zs k = r := ⟨_, rfl⟩;rw [hr] at h ⊢;unfold S.readyZ at hr;replace hr := hid hr;refine CI Tryz.func133 ?_;refine rC (ref_CheckZones zs) ?_;refine rN ?_;by_cases h1 : S.checkZones zs = 0
 rotate_left
 ·obtain rfl : S.checkZones zs = r := by rw [<- hr.out, if_pos (by simpa using h1)]
  refine rD h1 (onz_bad (S.checkZones zs)) ?_;refine rN ?_;exact ends_l3 (OutL.nl (OutL.nil _)) rfl rfl
 have hr2 := hr.out;rw [if_neg (by simp [h1])] at hr2
 have hk : k < 0 \/ 4 <= k := by
  by_cases g : k < 0 \/ 4 <= k
  ·exact g
  ·rw [if_neg g] at hr2; exact absurd hr2.symm h
 rw [if_pos hk] at hr2;subst hr2;have hk' : (decide (0 <= k) && decide (k <= 3)) = false := by simp; omega
 clear hr;refine rD h1 (ref_in k 0 3) ?_;rw [hk'];refine rC (onz_bad 5) ?_;refine rN ?_;exact ends_l3 (OutL.nl (OutL.nil _)) rfl rfl
theorem onzd_bad2 (zs : List S.Zone) (k : Int) (data : List Int) (h : S.readyZ zs k ≠ 0) : C Tryz.prog 133 [.lst false 2 (zs.map (zoneC false)), Int' 2, Int' k, .lst false 1 (I data)] (.tup [.lst false 2 [], Int' 0, Int' (S.readyZ zs k)]) [] := by
 obtain ⟨r, hr⟩ : ∃ r, S.readyZ zs k = r := ⟨_, rfl⟩;rw [hr] at h ⊢;unfold S.readyZ at hr;replace hr := hid hr;refine CI Tryz.func133 ?_;refine rC (ref_CheckZones zs) ?_;refine rN ?_;by_cases h1 : S.checkZones zs = 0
 rotate_left
 ·obtain rfl : S.checkZones zs = r := by rw [<- hr.out, if_pos (by simpa using h1)]
  refine rD h1 (onz_bad (S.checkZones zs)) ?_;refine rN ?_;exact ends_l3 (OutL.nl (OutL.nil _)) rfl rfl
 have hr2 := hr.out;rw [if_neg (by simp [h1])] at hr2
 have hk : k < 0 \/ 4 <= k := by
  by_cases g : k < 0 \/ 4 <= k
  ·exact g
  ·rw [if_neg g] at hr2; exact absurd hr2.symm h
 rw [if_pos hk] at hr2;subst hr2;have hk' : (decide (0 <= k) && decide (k <= 3)) = false := by simp; omega
 clear hr;refine rD h1 (ref_in k 0 3) ?_;rw [hk'];refine rC (onz_bad 5) ?_;refine rN ?_;exact ends_l3 (OutL.nl (OutL.nil _)) rfl rfl
theorem onzd_bad3 (zs : List S.Zone) (k : Int) (data : List Int) (h : S.readyZ zs k ≠ 0) : C Tryz.prog 133 [.lst false 2 (zs.map (zoneC false)), Int' 3, Int' k, .lst false 1 (I data)] (.tup [.lst false 2 [], Int' 0, Int' (S.readyZ zs k)]) [] := by
 obtain ⟨r, hr⟩ : ∃ r, S.readyZ zs k = r := ⟨_, rfl⟩;rw [hr] at h ⊢;unfold S.readyZ at hr;replace hr := hid hr;refine CI Tryz.func133 ?_;refine rC (ref_CheckZones zs) ?_;refine rN ?_;by_cases h1 : S.checkZones zs = 0
 rotate_left
 ·obtain rfl : S.checkZones zs = r := by rw [<- hr.out, if_pos (by simpa using h1)]
  refine rD h1 (onz_bad (S.checkZones zs)) ?_;refine rN ?_;exact ends_l3 (OutL.nl (OutL.nil _)) rfl rfl
 have hr2 := hr.out;rw [if_neg (by simp [h1])] at hr2
 have hk : k < 0 \/ 4 <= k := by
  by_cases g : k < 0 \/ 4 <= k
  ·exact g
  ·rw [if_neg g] at hr2; exact absurd hr2.symm h
 rw [if_pos hk] at hr2;subst hr2;have hk' : (decide (0 <= k) && decide (k <= 3)) = false := by simp; omega
 clear hr;refine rD h1 (ref_in k 0 3) ?_;rw [hk'];refine rC (onz_bad 5) ?_;refine rN ?_;exact ends_l3 (OutL.nl (OutL.nil _)) rfl rfl
theorem onzd_bad4 (zs : List S.Zone) (k : Int) (data : List Int) (h : S.readyZ zs k ≠ 0) : C Tryz.prog 133 [.lst false 2 (zs.map (zoneC false)), Int' 4, Int' k, .lst false 1 (I data)] (.tup [.lst false 2 [], Int' 0, Int' (S.readyZ zs k)]) [] := by
 obtain ⟨r, hr⟩ : ∃ r, S.readyZ zs k = r := ⟨_, rfl⟩;rw [hr] at h ⊢;unfold S.readyZ at hr;replace hr := hid hr;refine CI Tryz.func133 ?_;refine rC (ref_CheckZones zs) ?_;refine rN ?_;by_cases h1 : S.checkZones zs = 0
 rotate_left
 ·obtain rfl : S.checkZones zs = r := by rw [<- hr.out, if_pos (by simpa using h1)]
  refine rD h1 (onz_bad (S.checkZones zs)) ?_;refine rN ?_;exact ends_l3 (OutL.nl (OutL.nil _)) rfl rfl
 have hr2 := hr.out;rw [if_neg (by simp [h1])] at hr2
 have hk : k < 0 \/ 4 <= k := by
  by_cases g : k < 0 \/ 4 <= k
  ·exact g
  ·rw [if_neg g] at hr2; exact absurd hr2.symm h
 rw [if_pos hk] at hr2;subst hr2;have hk' : (decide (0 <= k) && decide (k <= 3)) = false := by simp; omega
 clear hr;refine rD h1 (ref_in k 0 3) ?_;rw [hk'];refine rC (onz_bad 5) ?_;refine rN ?_;exact ends_l3 (OutL.nl (OutL.nil _)) rfl rfl
theorem ref_onzd3 (zs : List S.Zone) (k : Int) (data : List Int) : C Tryz.prog 133 [.lst false 2 (zs.map (zoneC false)), Int' 3, Int' k, .lst false 1 (I data)] (.tup [.lst false 2 ((S.finishZ zs k).1.map (zoneC false)), Int' 0, Int' (S.finishZ zs k).2]) [] := by
 by_cases h : S.readyZ zs k = 0
 ·obtain ⟨h1, n, z, rfl, hn, hz⟩ := ready_parts h;have hl := (checkZones_parts h1).1;have ha := (checkZones_parts h1).2.2.2
  have hr : S.finishZ zs n = (zs.set n ⟨4, z.d⟩, 0) := by
   unfold S.finishZ;rw [if_neg (by simp [h])];simp [hz]
  rw [hr];have hnl : n < zs.length := by omega
  have hcl := clone_zones (zs.map (zoneC false)) (by simp; omega) (plain_map (fun _ => rfl) _);simp only [List.length_map] at hcl;replace hcl := hid hcl;have hk' : (decide (0 <= (n : Int)) && decide ((n : Int) <= 3)) = true := by simp; omega
  have hin := ref_in (n : Int) 0 3;rw [hk'] at hin;replace hin := hid hin;replace hl := hid hl;replace ha := hid ha;refine CI Tryz.func133 ?_;refine rC (ref_CheckZones zs) ?_;refine rD h1 hin.out ?_;refine rD hz hcl.out ?_;refine rS (aN hnl hz) ?_;exact ends_l3 (OutL.zonesF rfl ⟨rfl, rfl⟩ (by simp) (OutL.nil _)) rfl rfl
 ·have hr : S.finishZ zs k = ([], S.readyZ zs k) := by unfold S.finishZ; rw [if_pos h]
  rw [hr];exact onzd_bad3 zs k data h
theorem ref_onzd4 (zs : List S.Zone) (k : Int) (data : List Int) : C Tryz.prog 133 [.lst false 2 (zs.map (zoneC false)), Int' 4, Int' k, .lst false 1 (I data)] (.tup [.lst false 2 ((S.resetZ zs k).1.map (zoneC false)), Int' 0, Int' (S.resetZ zs k).2]) [] := by
 by_cases h : S.readyZ zs k = 0
 ·obtain ⟨h1, n, z, rfl, hn, hz⟩ := ready_parts h;have hl := (checkZones_parts h1).1;have ha := (checkZones_parts h1).2.2.2
  have hr : S.resetZ zs n = (zs.set n ⟨0, []⟩, 0) := by
   unfold S.resetZ;rw [if_neg (by simp [h])];rfl
  rw [hr];have hnl : n < zs.length := by omega
  have hcl := clone_zones (zs.map (zoneC false)) (by simp; omega) (plain_map (fun _ => rfl) _);simp only [List.length_map] at hcl;replace hcl := hid hcl;have hk' : (decide (0 <= (n : Int)) && decide ((n : Int) <= 3)) = true := by simp; omega
  have hin := ref_in (n : Int) 0 3;rw [hk'] at hin;replace hin := hid hin;replace hl := hid hl;replace ha := hid ha;refine CI Tryz.func133 ?_;refine rC (ref_CheckZones zs) ?_;refine rD h1 hin.out ?_;refine rD hz hcl.out ?_;refine rS (aN hnl hz) ?_;exact ends_l3 (OutL.zonesS rfl ⟨rfl, rfl⟩ (.inr (.inr ⟨rfl, rfl⟩)) (by simp) (OutL.nil _)) rfl rfl
 ·have hr : S.resetZ zs k = ([], S.readyZ zs k) := by unfold S.resetZ; rw [if_pos h]
  rw [hr];exact onzd_bad4 zs k data h
theorem ref_onzd2 (zs : List S.Zone) (k : Int) (data : List Int) : C Tryz.prog 133 [.lst false 2 (zs.map (zoneC false)), Int' 2, Int' k, .lst false 1 (I data)] (.tup [.lst false 2 ((S.closeZ zs k).1.map (zoneC false)), Int' 0, Int' (S.closeZ zs k).2]) [] := by
 by_cases h : S.readyZ zs k = 0
 ·obtain ⟨h1, n, z, rfl, hn, hz⟩ := ready_parts h;have hl := (checkZones_parts h1).1;have ha := (checkZones_parts h1).2.2.2;obtain ⟨r, hr⟩ : ∃ r, S.closeZ zs n = r := ⟨_, rfl⟩;rw [hr];unfold S.closeZ at hr;rw [if_neg (by simp [h])] at hr;simp only [Int.toNat_natCast, getD_of hz] at hr;have hnl : n < zs.length := by omega
  have hcl := clone_zones (zs.map (zoneC false)) (by simp; omega) (plain_map (fun _ => rfl) _);simp only [List.length_map] at hcl;replace hcl := hid hcl;have hk' : (decide (0 <= (n : Int)) && decide ((n : Int) <= 3)) = true := by simp; omega
  have hin := ref_in (n : Int) 0 3;rw [hk'] at hin;replace hin := hid hin;replace hl := hid hl;replace ha := hid ha;refine CI Tryz.func133 ?_;refine rC (ref_CheckZones zs) ?_;refine rD h1 hin.out ?_;refine rS hz ?_;refine brA_split (fun h2 => ?_) (fun h2 => ?_)
  ·obtain rfl : r = ([], 6) := by
    rw [<- hr, if_pos (by unfold S.isOpen; simp at h2; simp [h2])]
   refine rC (onz_bad 6) ?_;refine rN ?_;exact ends_l3 (OutL.nl (OutL.nil _)) rfl rfl
  obtain rfl : r = (zs.set n (S.shutZ z), 0) := by
   rw [<- hr, if_neg (by unfold S.isOpen; simp at h2; grind)]
  clear hr;refine rC (ref_shut z) ?_;refine rC hcl.out ?_;refine rS (aN hnl hz) ?_;exact ends_l3 (OutL.zonesF rfl ⟨rfl, rfl⟩ (by simp) (OutL.nil _)) rfl rfl
 ·have hr : S.closeZ zs k = ([], S.readyZ zs k) := by unfold S.closeZ; rw [if_pos h]
  rw [hr];exact onzd_bad2 zs k data h
theorem ref_onzd1 (zs : List S.Zone) (k : Int) (data : List Int) : C Tryz.prog 133 [.lst false 2 (zs.map (zoneC false)), Int' 1, Int' k, .lst false 1 (I data)] (.tup [.lst false 2 ((S.holdZ zs k).1.map (zoneC false)), Int' 0, Int' (S.holdZ zs k).2]) [] := by
 by_cases h : S.readyZ zs k = 0
 ·obtain ⟨h1, n, z, rfl, hn, hz⟩ := ready_parts h;have hl := (checkZones_parts h1).1;have ha := (checkZones_parts h1).2.2.2
  have hr : S.holdZ zs n = if (S.room zs n).2 ≠ 0 then ([], (S.room zs n).2) else ((S.room zs n).1.set n ⟨2, z.d⟩, 0) := by
   unfold S.holdZ;rw [if_neg (by simp [h])];have := (room_get hz).1;simp [this]
  obtain ⟨r, hr0⟩ : ∃ r, S.holdZ zs n = r := ⟨_, rfl⟩;rw [hr0] at hr ⊢;clear hr0;obtain ⟨g1, g2⟩ := room_get hz;have hroom := ref_roomFor zs n z hz hl ha;unfold roomR at hroom;generalize S.room zs n = rr at *;obtain ⟨l', e⟩ := rr;simp only at g1 g2 hr hroom;rw [hl] at g2;have hcl2 := clone_zones (l'.map (zoneC false)) (by simp; omega) (plain_map (fun _ => rfl) _);simp only [List.length_map] at hcl2;have hnl2 : n < l'.length := by omega
  replace hcl2 := hid hcl2;replace hroom := hid hroom;replace hr := hid hr;have hnl : n < zs.length := by omega
  have hcl := clone_zones (zs.map (zoneC false)) (by simp; omega) (plain_map (fun _ => rfl) _);simp only [List.length_map] at hcl;replace hcl := hid hcl;have hk' : (decide (0 <= (n : Int)) && decide ((n : Int) <= 3)) = true := by simp; omega
  have hin := ref_in (n : Int) 0 3;rw [hk'] at hin;replace hin := hid hin;replace hl := hid hl;replace ha := hid ha;refine CI Tryz.func133 ?_;refine rC (ref_CheckZones zs) ?_;refine rD h1 hin.out ?_;refine rD hz hroom.out ?_;refine rN ?_;by_cases he : e = 0
  ·subst he;obtain rfl : r = (l'.set n ⟨2, z.d⟩, 0) := by rw [hr.out, if_neg (by simp)]
   clear hr hroom;refine rC hcl2.out ?_;refine rS (aN hnl2 g1) ?_;exact ends_l3 (OutL.zonesF rfl ⟨rfl, rfl⟩ (by simp) (OutL.nil _)) rfl rfl
  ·obtain rfl : r = ([], e) := by rw [hr.out, if_pos (by simpa using he)]
   clear hr hroom;refine rD he (onz_bad e) ?_;refine rN ?_;exact ends_l3 (OutL.nl (OutL.nil _)) rfl rfl
 ·have hr : S.holdZ zs k = ([], S.readyZ zs k) := by unfold S.holdZ; rw [if_pos h]
  rw [hr];exact onzd_bad1 zs k data h
end Go.Proofs.YtadmfokicjjglaaGreatDoor.E
