
/- Ym: the reference on zones: checks, writing of a zone, room. -/
import Derived.Test.YtadmfokicjjglaaGreatDoorY2
import Derived.Test.YtadmfokicjjglaaGreatDoorY0
import Derived.Test.YtadmfokicjjglaaGreatDoorL1
import Derived.Test.YtadmfokicjjglaaGreatDoorX3
namespace Go.Proofs.YtadmfokicjjglaaGreatDoor.E
open Go.RowKit Go.Proofs
set_option maxRecDepth 100000
set_option maxHeartbeats 1000000
set_option linter.unusedSimpArgs false
theorem all_bad (xs : List Int) : xs.all (within 0 999) = !xs.any S.bad := by
 induction xs with
 | nil => rfl
 | cons x xs ih =>
  rw [List.all_cons, List.any_cons, ih, Bool.not_or];congr 1
  simp [S.bad];cases h1 : decide (x < 0) <;> cases h2 : decide (999 < x) <;> simp at h1 h2 <;> simp <;> omega
theorem ref_CheckZone (z : S.Zone) : C Tryz.prog 162 [.agg (zoneC false z)] (Int' (S.checkZone z)) [] := by
 obtain ⟨st, xs⟩ := z;obtain ⟨r, hr⟩ : ∃ r, S.checkZone ⟨st, xs⟩ = r := ⟨_, rfl⟩;rw [hr];unfold S.checkZone at hr;simp only at hr;replace hr := hid hr;refine CI Tryz.func162 ?_;refine rC (ref_in st 0 4) ?_;refine rN ?_;refine brA_split (fun h1 => ?_) (fun h1 => ?_)
 ·refine rN ?_;exact ends_int (by rw [<- hr.out, if_pos (by simp at h1; omega)])
 have hr2 := hr.out;rw [if_neg (by simp at h1; omega)] at hr2;replace hr2 := hid hr2;clear hr;refine rN ?_;refine brA_split (fun h2 => ?_) (fun h2 => ?_)
 ·refine rN ?_;exact ends_int (by rw [<- hr2.out, if_pos (by simp at h2; omega)])
 have hr3 := hr2.out;rw [if_neg (by simp at h2; omega)] at hr3;replace hr3 := hid hr3;clear hr2;refine rC (ref_all xs 0 999 (by simp at h2; omega)) ?_;rw [all_bad];refine rN ?_;cases h3 : xs.any S.bad;rotate_left
 ·refine rN ?_;exact ends_int (by rw [<- hr3.out, if_pos h3])
 have hr4 := hr3.out;rw [if_neg (by simp [h3])] at hr4;replace hr4 := hid hr4;clear hr3;refine rN ?_
 have fin : ∀ a : Int, ((st = 0 /\ 0 < xs.length) \/ (xs.length = 8 /\ st ≠ 4) \/ (st = 3 /\ xs.length = 0) -> a = 4) -> (¬ ((st = 0 /\ 0 < xs.length) \/ (xs.length = 8 /\ st ≠ 4) \/ (st = 3 /\ xs.length = 0)) -> a = 0) -> a = r := by
  intro a h1 h2;rw [<- hr4.out];split
  ·rename_i g; exact h1 g
  ·rename_i g; exact h2 g
 replace fin := hid fin;have hx0 : xs = [] ↔ xs.length = 0 := by simp
 refine brA_split (fun g1 => ?_) (fun g1 => ?_)
 ·refine rS g1 ?_;exact ends_int (fin.out _ (fun _ => rfl) (by simp [hx0, -List.length_eq_zero_iff] at g1; omega))
 refine rN ?_;refine brA_split (fun g2 => ?_) (fun g2 => ?_)
 ·refine rS (aN g1 g2) ?_;exact ends_int (fin.out _ (fun _ => rfl) (by simp [hx0, -List.length_eq_zero_iff] at g1 g2; omega))
 refine rN ?_;refine brA_split (fun g3 => ?_) (fun g3 => ?_)
 ·refine rS (aN g1 (aN g2 g3)) ?_;exact ends_int (fin.out _ (fun _ => rfl) (by simp [hx0, -List.length_eq_zero_iff] at g1 g2 g3; omega))
 ·refine rS (aN g1 (aN g2 g3)) ?_;exact ends_int (fin.out _ (by simp [hx0, -List.length_eq_zero_iff] at g1 g2 g3; omega) (fun _ => rfl))
theorem ref_shut (z : S.Zone) : C Tryz.prog 165 [.agg (zoneC false z)] (.agg (zoneC false (S.shutZ z))) [] := by
 obtain ⟨st, xs⟩ := z;refine CI Tryz.func165 ?_;refine rN ?_;refine brA_split (fun h1 => ?_) (fun h1 => ?_)
 ·obtain rfl : xs = [] := by simpa using h1
  refine rN ?_;exact ends_agg outL
 ·have h2 : S.shutZ ⟨st, xs⟩ = ⟨3, xs⟩ := by unfold S.shutZ; rw [if_neg (by simpa using h1)]
  rw [h2];refine rN ?_;exact ends_agg outL
theorem ref_opened (zs : List S.Zone) (hlen : zs.length <= 100000000) : C Tryz.prog 192 [.lst false 2 (zs.map (zoneC false))] (.tup [Int' (zs.countP S.isOpen), Int' (zs.countP S.isActive)]) [] := by
 refine CI Tryz.func192 ?_;refine rN ?_;refine loop_count 8 zs.length (fun k _ m t => t 2 = Int' ((zs.take k).countP S.isOpen) /\ t 3 = Int' ((zs.take k).countP S.isActive) /\ ∃ d, m = d + 8) _ rfl (by rfl) ⟨by simp, by simp, ⟨_, rfl⟩⟩ ?_ ?_
 ·rintro k t h m hk hci hs ⟨h2, h3, d, rfl⟩;have hw : IntKind.i64.wrap ((k : Int) + 1) = (k : Int) + 1 := wrap_ok (by omega);obtain ⟨x, hx⟩ : ∃ x, zs[k]? = some x := ⟨zs[k], by simp⟩;have hk' : decide (k < zs.length) = true := by simp [hk]
  have hct := countP_take (p := S.isOpen) hx;have hca := countP_take (p := S.isActive) hx;have hle : (zs.take k).countP S.isOpen <= k := Nat.le_trans List.countP_le_length (by simp; omega);have hle2 : (zs.take k).countP S.isActive <= k := Nat.le_trans List.countP_le_length (by simp; omega);have hw2 : IntKind.i64.wrap (((zs.take k).countP S.isOpen : Int) + 1) = ((zs.take k).countP S.isOpen : Int) + 1 := wrap_ok (by omega);have hw3 : IntKind.i64.wrap (((zs.take k).countP S.isActive : Int) + 1) = ((zs.take k).countP S.isActive : Int) + 1 := wrap_ok (by omega);have e6 := hs 6 rfl;have e7 := hs 7 rfl;clear hs;simp -dsimp -implicitDefEqProofs at e6 e7;replace hk := hid hk;replace hct := hid hct;replace hca := hid hca;refine rS (aN e6 (aN e7 (aN hci (aN hk' (aN hx (aN h2 h3)))))) ?_;by_cases c1 : x.st = 1
  ·have o1 : S.isOpen x = true := by simp [S.isOpen, c1]
   have o2 : S.isActive x = true := by simp [S.isActive, c1]
   refine rS (aN c1 (aN hw (aN hw2 (aN hw3 (aN hci (aN e6 (aN e7 (aN h2 h3)))))))) ?_;exact ⟨by rw [hct.out, o1]; simp, by rw [hca.out, o2]; simp⟩
  by_cases c2 : x.st = 2
  ·have o1 : S.isOpen x = true := by simp [S.isOpen, c2]
   have o2 : S.isActive x = true := by simp [S.isActive, c2]
   refine rS (aN c1 (aN c2 (aN hw (aN hw2 (aN hw3 (aN hci (aN e6 (aN e7 (aN h2 h3))))))))) ?_;exact ⟨by rw [hct.out, o1]; simp, by rw [hca.out, o2]; simp⟩
  have o1 : S.isOpen x = false := by simp [S.isOpen, c1, c2]
  by_cases c3 : x.st = 3
  ·have o2 : S.isActive x = true := by simp [S.isActive, c3]
   refine rS (aN c1 (aN c2 (aN c3 (aN hw (aN hw2 (aN hw3 (aN hci (aN e6 (aN e7 (aN h2 h3)))))))))) ?_;exact ⟨by rw [hct.out, o1]; simp, by rw [hca.out, o2]; simp⟩
  ·have o2 : S.isActive x = false := by simp [S.isActive, c1, c2, c3]
   refine rS (aN c1 (aN c2 (aN c3 (aN hw (aN hw2 (aN hw3 (aN hci (aN e6 (aN e7 (aN h2 h3)))))))))) ?_;exact ⟨by rw [hct.out, o1]; simp, by rw [hca.out, o2]; simp⟩
 ·rintro t h m hci hs ⟨h2, h3, d, rfl⟩;have e6 := hs 6 rfl;have e7 := hs 7 rfl;clear hs;simp -dsimp -implicitDefEqProofs at e6 e7;refine rS (aN e6 (aN e7 (aN hci (aN h2 h3)))) ?_;exact ⟨⟨_, rfl, Sub.refl _⟩, by simp⟩
theorem ref_CheckZones (zs : List S.Zone) : C Tryz.prog 164 [.lst false 2 (zs.map (zoneC false))] (Int' (S.checkZones zs)) [] := by
 obtain ⟨r, hr⟩ : ∃ r, S.checkZones zs = r := ⟨_, rfl⟩;rw [hr];unfold S.checkZones at hr;replace hr := hid hr;refine CI Tryz.func164 ?_;refine rN ?_;refine brA_split (fun h1 => ?_) (fun h1 => ?_);rotate_left
 ·refine rN ?_;exact ends_int (by simp at h1; rw [<- hr.out, if_pos (by omega)])
 simp at h1;have hl : zs.length = 4 := by omega
 refine rN ?_;refine loop_count 13 zs.length (fun k _ m t => (∃ d, m = d + 8) /\ Hid (∀ (j : Nat) (x : S.Zone), j < k -> zs[j]? = some x -> S.checkZone x = 0)) _ rfl (by rfl) ⟨⟨_, rfl⟩, by intro j x hj; omega⟩ ?_ ?_
 ·rintro k t h m hk hci hs ⟨⟨d, rfl⟩, hb⟩;have hw : IntKind.i64.wrap ((k : Int) + 1) = (k : Int) + 1 := wrap_ok (by omega);obtain ⟨x, hx⟩ : ∃ x, zs[k]? = some x := ⟨zs[k], by simp⟩;have hk' : decide (k < zs.length) = true := by simp [hk]
  have e0 := hs 0 rfl;have e11 := hs 11 rfl;have e12 := hs 12 rfl;clear hs;simp -dsimp -implicitDefEqProofs at e0 e11 e12;replace hk := hid hk;refine rD (aN e0 (aN e11 (aN e12 (aN hci (aN hk' hx))))) (ref_CheckZone x) ?_;refine rN ?_;refine brA_split (fun g1 => ?_) (fun g1 => ?_)
  ·refine rS (aN hw (aN hci (aN e0 (aN e11 e12)))) ?_;exact upto_succ hb.out hx (by simpa using g1)
  ·refine rN ?_;exact ends_int (by rw [<- hr.out, if_neg (by omega), firstBad_at hb.out hx (by simpa using g1), if_pos (by simpa using g1)])
 ·rintro t h m hci hs ⟨⟨d, rfl⟩, hb⟩;have hfb := firstBad_none (f := S.checkZone) (xs := zs) hb.out;have e0 := hs 0 rfl;have e11 := hs 11 rfl;have e12 := hs 12 rfl;clear hs;simp -dsimp -implicitDefEqProofs at e0 e11 e12;refine rD (aN e0 (aN e11 (aN e12 hci))) (ref_opened zs (by omega)) ?_;refine rS (aN e0 (aN e11 e12)) ?_;refine brA_split (fun g1 => ?_) (fun g1 => ?_)
  ·refine rN ?_;exact ends_int (by simp at g1; rw [<- hr.out, if_neg (by omega), hfb, if_neg (by simp), if_pos (by omega)])
  ·refine rN ?_;exact ends_int (by simp at g1; rw [<- hr.out, if_neg (by omega), hfb, if_neg (by simp), if_neg (by omega)])
set_option linter.unusedVariables false
theorem ref_WriteZone (z : S.Zone) (l : List Int) : C Tryz.prog 166 [.agg (zoneC false z), .lst false 1 (I l)] (.tup [.agg (zoneC true (S.writeZone z l).1), Int' (S.writeZone z l).2]) [] := by
 obtain ⟨st, xs⟩ := z;obtain ⟨r, hr⟩ : ∃ r, S.writeZone ⟨st, xs⟩ l = r := ⟨_, rfl⟩;rw [hr];unfold S.writeZone at hr;have hlen := fun e => checkZone_len (z := ⟨st, xs⟩) e
 simp only at hr hlen;replace hr := hid hr;replace hlen := hid hlen;refine CI Tryz.func166 ?_;refine rC (ref_CheckZone ⟨st, xs⟩) ?_;refine rN ?_;by_cases h1 : S.checkZone ⟨st, xs⟩ = 0
 rotate_left
 ·obtain rfl : r = (S.Zone.zero, S.checkZone ⟨st, xs⟩) := by rw [<- hr.out]; simp [h1]
  refine rS h1 ?_;exact ends_ag outL rfl
 have hl := hlen.out h1;have hr2 := hr.out;rw [if_neg (by simp [h1])] at hr2;replace hr2 := hid hr2;clear hr hlen;refine rD h1 (ref_in (l.length : Int) 1 8) ?_;refine rN ?_;refine brA_split (fun h2 => ?_) (fun h2 => ?_)
 ·obtain rfl : r = (S.Zone.zero, 2) := by rw [<- hr2.out, if_pos (by simp at h2; omega)]
  refine rN ?_;exact ends_ag outL rfl
 have hr3 := hr2.out;rw [if_neg (by simp at h2; omega)] at hr3;replace hr3 := hid hr3;clear hr2;have hl2 : l.length <= 8 := by simp at h2; omega
 refine rC (ref_all l 0 999 (by omega)) ?_;rw [all_bad];refine rN ?_;cases h3 : l.any S.bad;rotate_left
 ·obtain rfl : r = (S.Zone.zero, 3) := by rw [<- hr3.out, if_pos h3]
  refine rN ?_;exact ends_ag outL rfl
 have hr4 := hr3.out;rw [if_neg (by simp [h3])] at hr4;replace hr4 := hid hr4;clear hr3 h2;have hw : IntKind.i64.wrap ((xs.length : Int) + (l.length : Int)) = (xs.length : Int) + (l.length : Int) := wrap_ok (by omega);refine rS hw ?_;refine brA_split (fun h4 => ?_) (fun h4 => ?_)
 ·obtain rfl : r = (S.Zone.zero, 7) := by rw [<- hr4.out, if_pos (by simp at h4; omega)]
  refine rN ?_;exact ends_ag outL rfl
 have hr5 := hr4.out;rw [if_neg (by simp at h4; omega)] at hr5;subst hr5;clear hr4;refine rC (slices_Concat xs l (by omega) (by omega)) ?_;refine rN ?_;by_cases c2 : st = 2
 ·subst c2;refine rN ?_;by_cases c8 : (xs.length : Int) + l.length = 8
  ·have c8' : xs.length + l.length = 8 := by omega
   refine rS (aN c8 c8') ?_;exact ends_ag outL rfl
  ·have c8' : ¬ xs.length + l.length = 8 := by omega
   refine rS (aN c8 c8') ?_;exact ends_ag outL rfl
 ·refine rS c2 ?_;by_cases c8 : (xs.length : Int) + l.length = 8
  ·have c8' : xs.length + l.length = 8 := by omega
   refine rS (aN c8 c8') ?_;exact ends_ag outL rfl
  ·have c8' : ¬ xs.length + l.length = 8 := by omega
   refine rS (aN c8 (aN c8' c2)) ?_;exact ends_ag outL rfl
theorem OutL.zonesF {h : Heap} {i n : Nat} {e : HE} {xs : List S.Zone} {cs ts : List AV} (hi : h i = some e) (he : e.s = 2 /\ e.rows = xs.map (zoneC false)) (hn : n = xs.length) (g : OutL h cs ts) : OutL h (.own i 0 n :: cs) (.lst false 2 (xs.map (zoneC false)) :: ts) := by
 have hi' : h i = some ⟨e.ty, 2, xs.map (zoneC false)⟩ := by rw [hi, <- he.1, <- he.2]
 have ho := own_plain hi' (by simpa using hn) (fun r hr => by obtain ⟨z, _, rfl⟩ := List.mem_map.1 hr; rfl);have e1 : (xs.map (zoneC false)).map (fun r => r.map unfr) = xs.map (zoneC false) := by rw [List.map_map]; rfl
 rw [e1] at ho;exact .cons ho (.lst (fun h => by cases h) (SubR.refl _)) g
theorem OutL.zonesS {h : Heap} {i n k : Nat} {e : HE} {xs : List S.Zone} {a : Int} {c : AV} {d : List Int} {cs ts : List AV} (hi : h i = some e) (he : e.s = 2 /\ e.rows = (xs.map (zoneC false)).set k [Int' a, c]) (hc : c = .lst true 1 (I d) \/ c = .lst false 1 (I d) \/ (c = .nl /\ d = [])) (hn : n = xs.length) (g : OutL h cs ts) :
  OutL h (.own i 0 n :: cs) (.lst false 2 ((xs.set k ⟨a, d⟩).map (zoneC false)) :: ts) := by
 have hi' : h i = some ⟨e.ty, 2, (xs.map (zoneC false)).set k [Int' a, c]⟩ := by rw [hi, <- he.1, <- he.2]
 have ho := own_plain hi' (n := n) (by simp [hn]) (fun r hr => by
  rcases List.mem_or_eq_of_mem_set hr with hr | rfl
  ·obtain ⟨z, _, rfl⟩ := List.mem_map.1 hr; rfl
  ·rcases hc with rfl | rfl | ⟨rfl, rfl⟩ <;> rfl)
 refine .cons ho (.lst (fun h => by cases h) ?_) g
 have e1 : ((xs.map (zoneC false)).set k [Int' a, c]).map (fun r => r.map unfr) = (xs.map (zoneC false)).set k ([Int' a, c].map unfr) := by
  rw [List.map_set, List.map_map];rfl
 rw [e1, List.map_set];refine SubR.set (SubR.refl _) ?_;rcases hc with rfl | rfl | ⟨rfl, rfl⟩
 ·exact .cons (.refl _) (.cons (.refl _) (.nil _))
 ·exact .cons (.refl _) (.cons (.refl _) (.nil _))
 ·exact .cons (.refl _) (.cons .nl (.nil _))
def roomR (zs : List S.Zone) (n : Nat) : List S.Zone × Int := (if (S.room zs n).2 = 0 then (S.room zs n).1 else [], (S.room zs n).2)
theorem ref_roomFor (zs : List S.Zone) (n : Nat) (z : S.Zone) (hz : zs[n]? = some z) (hl : zs.length = 4) (ha : zs.countP S.isActive <= 3) : C Tryz.prog 167 [.lst false 2 (zs.map (zoneC false)), Int' n] (.tup [.lst false 2 ((roomR zs n).1.map (zoneC false)), Int' (roomR zs n).2]) [] := by
 obtain ⟨r, hr⟩ : ∃ r, roomR zs n = r := ⟨_, rfl⟩;rw [hr]
 have hre : S.room zs n = if S.isOpen z = true then (zs, 0) else if z.st = 4 then (zs, 7) else if z.st = 0 /\ zs.countP S.isActive = 3 then (zs, 7) else if zs.countP S.isOpen < 2 then (zs, 0)
   else if S.idx (fun z => decide (z.st = 1)) zs < 0 then (zs, 7) else (zs.set (S.idx (fun z => decide (z.st = 1)) zs).toNat (S.shutZ (zs.getD (S.idx (fun z => decide (z.st = 1)) zs).toNat S.Zone.zero)), 0) := by
  unfold S.room;simp only [List.getD, hz, Option.getD_some]
 have hq : ∀ l e, S.room zs n = (l, e) -> r = (if e = 0 then l else [], e) := by
  intro l e h;rw [<- hr]; unfold roomR; rw [h]
 rw [hre] at hq;clear hr hre;replace hq := hid hq;have hcl := clone_zones (zs.map (zoneC false)) (by simp; omega) (plain_map (fun _ => rfl) _);simp only [List.length_map] at hcl;have hn : n < zs.length := (List.getElem?_eq_some_iff.1 hz).1;have hcp := ref_opened zs (by omega);replace hcp := hid hcp;replace hcl := hid hcl;refine CI Tryz.func167 ?_;refine rC hcl.out ?_;refine rN ?_;refine call_C hcp.out (by rw [List.mapM_cons, view_zones (h := _) (i := 12) (n := zs.length) rfl rfl]; rfl) (Or.inl ⟨rfl, rfl⟩) (Nat.le_of_ble_eq_true rfl) ?_;refine rS (aN hz hn) ?_;refine brA_split (fun h1 => ?_) (fun h1 => ?_)
 ·obtain rfl : r = (zs, 0) := hq.out zs 0 (by rw [if_pos (show S.isOpen z = true from h1)]);refine rN ?_;exact ends_le (OutL.zonesF rfl ⟨rfl, rfl⟩ rfl (OutL.nil _)) rfl
 have hq1 := hq.out;rw [if_neg (by unfold S.isOpen; simp [h1])] at hq1;replace hq1 := hid hq1;clear hq;refine rN ?_;by_cases h2 : z.st = 4
 ·obtain rfl : r = ([], 7) := hq1.out zs 7 (by rw [if_pos h2]);refine rS h2 ?_;exact ends_le (OutL.nl (OutL.nil _)) rfl
 have hq2 := hq1.out;rw [if_neg h2] at hq2;replace hq2 := hid hq2;clear hq1;refine rS h2 ?_;refine brA_split (fun h3 => ?_) (fun h3 => ?_)
 ·obtain rfl : r = ([], 7) := hq2.out zs 7 (by rw [if_pos (by simp at h3; omega)]);refine rN ?_;exact ends_le (OutL.nl (OutL.nil _)) rfl
 have hq3 := hq2.out;rw [if_neg (by simp at h3; omega)] at hq3;replace hq3 := hid hq3;clear hq2;refine rN ?_;refine brA_split (fun h4 => ?_) (fun h4 => ?_)
 ·obtain rfl : r = (zs, 0) := hq3.out zs 0 (by rw [if_pos (by simp at h4; omega)]);refine rN ?_;exact ends_le (OutL.zonesF rfl ⟨rfl, rfl⟩ rfl (OutL.nil _)) rfl
 have hq4 := hq3.out;rw [if_neg (by simp at h4; omega)] at hq4;replace hq4 := hid hq4;clear hq3;refine rN ?_;refine loop_count 46 zs.length (fun k h m _ => h 12 = some ⟨91, 2, zs.map (zoneC false)⟩ /\ (∃ d, m = d + 16) /\ Hid (∀ (j : Nat) (x : S.Zone), j < k -> zs[j]? = some x -> (fun z : S.Zone => decide (z.st = 1)) x = false)) _ rfl (by rfl) ⟨rfl, ⟨_, rfl⟩, by intro j x hj; omega⟩ ?_ ?_
 ·rintro k t h m hk hci hs ⟨h12, ⟨d, rfl⟩, hb⟩;have hw : IntKind.i64.wrap ((k : Int) + 1) = (k : Int) + 1 := wrap_ok (by omega);obtain ⟨x, hx⟩ : ∃ x, zs[k]? = some x := ⟨zs[k], by simp⟩;have hk' : decide (k < zs.length) = true := by simp [hk]
  have e0 := hs 0 rfl;have e1 := hs 1 rfl;have e44 := hs 44 rfl;have e45 := hs 45 rfl;clear hs;simp -dsimp -implicitDefEqProofs at e0 e1 e44 e45;by_cases hp : x.st = 1
  ·obtain rfl : r = (zs.set k (S.shutZ x), 0) := hq4.out _ 0 (by
    have e := idx_at (p := fun z : S.Zone => decide (z.st = 1)) hb.out hx (by simp [hp])
    rw [e, if_neg (by omega)]; simp [hx])
   have hp' : (x.st = 1) = True := by simp [hp]
   refine rD (aN e0 (aN e1 (aN e44 (aN e45 (aN hci (aN hk' (aN hx (aN h12 hp')))))))) (ref_shut x) ?_;refine rS (aN e0 (aN e1 (aN e44 (aN e45 (aN hci (aN hk' (aN hx (aN h12 hk)))))))) ?_;exact ends_le (OutL.zonesF rfl ⟨rfl, rfl⟩ (by simp) (OutL.nil _)) rfl
  ·replace hk := hid hk;refine rS (aN e0 (aN e1 (aN e44 (aN e45 (aN hci (aN hk' (aN hx (aN h12 (aN hp hw))))))))) ?_
   exact hid (fun j y hj hy => by
    have := upto_succ (p := fun z : S.Zone => decide (z.st = 1) = false) hb.out hx (by simp [hp]) j y hj hy
    simpa using this)
 ·rintro t h m hci hs ⟨h12, ⟨d, rfl⟩, hb⟩;have e0 := hs 0 rfl;have e1 := hs 1 rfl;have e44 := hs 44 rfl;have e45 := hs 45 rfl;clear hs;simp -dsimp -implicitDefEqProofs at e0 e1 e44 e45;obtain rfl : r = ([], 7) := hq4.out zs 7 (by rw [idx_none hb.out]; rfl);refine rS (aN e0 (aN e1 (aN e44 (aN e45 hci)))) ?_;exact ends_le (OutL.nl (OutL.nil _)) rfl
end Go.Proofs.YtadmfokicjjglaaGreatDoor.E
