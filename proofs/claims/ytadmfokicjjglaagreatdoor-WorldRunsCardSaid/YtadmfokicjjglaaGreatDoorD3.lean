/- D3: Df: ref.ReadZone, ref.FreshDesk. Dg: ref.Done. -/
import Derived.Test.YtadmfokicjjglaaGreatDoorY3
import Derived.Test.YtadmfokicjjglaaGreatDoorOw
import Derived.Test.YtadmfokicjjglaaGreatDoorX4
import Derived.Test.YtadmfokicjjglaaGreatDoorM1
import Derived.Test.YtadmfokicjjglaaGreatDoorD4
import Derived.Test.YtadmfokicjjglaaGreatDoorX3
namespace Go.Proofs.YtadmfokicjjglaaGreatDoor.E
open Go.RowKit Go.Proofs
set_option maxRecDepth 100000
set_option maxHeartbeats 1000000
set_option linter.unusedSimpArgs false
set_option linter.unusedVariables false
theorem read_snoc {xs : List Int} {a k : Nat} {x : Int} (h : xs[a + k]? = some x) : (xs.drop a).take (k + 1) = (xs.drop a).take k ++ [x] := by
 refine take_succ_get ?_;rw [List.getElem?_drop]; exact h
theorem ref_ReadZone (z : S.Zone) (a n : Int) : C Tryz.prog 132 [.agg (zoneC false z), Int' a, Int' n] (.tup [.lst true 1 (I (S.readZone z a n).1), Int' (S.readZone z a n).2]) [] := by
 obtain ⟨q, hq⟩ : ∃ q, S.readZone z a n = q := ⟨_, rfl⟩;rw [hq];unfold S.readZone at hq;have cz := hid (ref_CheckZone z);by_cases h0 : S.checkZone z = 0
 rotate_left
 ·rw [if_pos h0] at hq;subst hq;refine CI Tryz.func132 ?_;refine rC cz.out ?_;refine rS h0 ?_;exact ends_le outL rfl
 rw [if_neg (by simp [h0])] at hq;rw [h0] at cz;have hl8 : z.d.length <= 8 := checkZone_len h0;clear h0;by_cases ha : a < 0 \/ 8 < a
 ·have ha' := in_no ha;rw [if_pos (by omega)] at hq;subst hq;clear ha;refine CI Tryz.func132 ?_;refine rC cz.out ?_;refine rC (ref_in a 0 8) ?_;refine rS ha' ?_;exact ends_le outL rfl
 have ha' := in_yes ha;have hw8 : IntKind.i64.wrap (8 - a) = 8 - a := wrap_ok (by omega);by_cases hn : n < 0 \/ 8 - a < n
 ·have hn' := in_no hn;rw [if_pos (by omega)] at hq;subst hq;clear ha hn;refine CI Tryz.func132 ?_;refine rC cz.out ?_;refine rC (ref_in a 0 8) ?_;refine rD (aN ha' hw8) (ref_in n 0 (8 - a)) ?_;refine rS hn' ?_;exact ends_le outL rfl
 have hn' := in_yes hn;rw [if_neg (by omega)] at hq;replace hl8 := hid hl8;replace hq := hid hq;replace ha := hid ha;replace hn := hid hn;refine CI Tryz.func132 ?_;refine rC cz.out ?_;refine rC (ref_in a 0 8) ?_;refine rD (aN ha' hw8) (ref_in n 0 (8 - a)) ?_;refine rS hn' ?_;replace ha := ha.out;replace hn := hn.out;obtain ⟨A, rfl⟩ : ∃ A : Nat, a = A := ⟨a.toNat, by omega⟩;obtain ⟨N, rfl⟩ : ∃ N : Nat, n = N := ⟨n.toNat, by omega⟩;have hAN := hid (show A + N <= 8 by omega);replace hq := hid (show (if (z.d.length : Int) < (A : Int) + (N : Int) then ([], 6) else ((z.d.drop A).take N, 0)) = q from hq.out);clear ha hn ha' hn' hw8;refine loop_count 27 N (fun k h m t => OwnIs [0] m h (t 9) ((z.d.drop A).take k) /\ ((z.d.drop A).take k).length = k /\ h 0 = some ⟨91, 2, [zoneC false z]⟩ /\ ∃ d, m = d + 16) _ rfl (by rfl) ⟨.inl ⟨rfl, by simp⟩, by simp, rfl, ⟨_, rfl⟩⟩ ?_ ?_
 ·rintro k t h m hk hci hs ⟨hown, hkl, h00, d, rfl⟩;obtain ⟨P, hP, hP2⟩ : ∃ P : Nat, (A : Int) + (k : Int) = (P : Int) /\ P = A + k := ⟨A + k, by omega, rfl⟩;have hwP : IntKind.i64.wrap ((A : Int) + (k : Int)) = (P : Int) := by rw [hP]; exact wrap_ok (by have := hAN.out; omega)
  have hw : IntKind.i64.wrap ((k : Int) + 1) = (k : Int) + 1 := wrap_ok (by have := hAN.out; omega);have hk' : decide (k < N) = true := by simp [hk]
  have e1 := hs 1 rfl;have e2 := hs 2 rfl;have e3 := hs 3 rfl;have e26 := hs 26 rfl;clear hs;simp -dsimp -implicitDefEqProofs at e1 e2 e3 e26;by_cases hPl : P < z.d.length
  ·obtain ⟨x, hx⟩ : ∃ x, z.d[P]? = some x := ⟨z.d[P], by simp⟩;have hPl' : decide (z.d.length <= P) = false := decide_eq_false (by omega);have hx2 := read_snoc (xs := z.d) (a := A) (k := k) (x := x) (by rw [<- hP2]; exact hx);rw [hx2];obtain ⟨xs, hxs⟩ : ∃ xs, (z.d.drop A).take k = xs := ⟨_, rfl⟩;rw [hxs] at hown hkl ⊢;clear hxs hx2;replace hk := hid hk;replace hP := hid hP;replace hP2 := hid hP2;replace hPl := hid hPl;rcases hown with ⟨u9, rfl⟩ | ⟨o, ks, u9, hno, hos, go, htk, hkl2⟩
   ·refine rS (aN e1 (aN e2 (aN e3 (aN e26 (aN hci (aN hk' (aN hwP (aN hPl' (aN hx (aN u9 (aN h00 hw))))))))))) ?_;refine ⟨.inr ⟨_, [x], rfl, by simp, by omega, by simp -dsimp -implicitDefEqProofs [I], rfl, by simp⟩, by simp at hkl ⊢; omega⟩
   ·have hz1 : decide (xs.length <= ks.length) = true := by simp; exact hkl2
    have hz2 : decide (xs.length <= 100000000) = true := by have := hk.out; have := hAN.out; simp; omega
    have n0 : ¬ 0 = o := fun e => hno (by simp [e])
    have n0' : ¬ o = 0 := fun e => hno (by simp [e])
    refine rS (aN e1 (aN e2 (aN e3 (aN e26 (aN hci (aN hk' (aN hwP (aN hPl' (aN hx (aN u9 (aN h00 (aN hw (aN hz1 (aN hz2 (aN go (aN n0 (aN n0' (aN htk (apA hos))))))))))))))))))) ?_;exact ⟨.inr ⟨d + 16 + 4 + 8 + 28 + 36, xs ++ [x], by simp, by simp, by omega, by simp -dsimp -implicitDefEqProofs [I], List.take_of_length_le (by simp), by simp⟩, hkl⟩
  ·have hPl' : decide (z.d.length <= P) = true := decide_eq_true (by omega);have hq2 := hq.out;rw [if_pos (by omega)] at hq2;subst hq2;replace hPl := hid hPl;replace hk := hid hk;replace hP := hid hP;replace hP2 := hid hP2;refine rS (aN e1 (aN e2 (aN e3 (aN e26 (aN hci (aN hk' (aN hwP (aN hPl' h00)))))))) ?_;exact ends_le outL rfl
 ·rintro t h m hci hs ⟨hown, hkl, h00, d, rfl⟩;have e1 := hs 1 rfl;have e2 := hs 2 rfl;have e3 := hs 3 rfl;have e26 := hs 26 rfl;clear hs;simp -dsimp -implicitDefEqProofs at e1 e2 e3 e26;rw [List.length_take, List.length_drop] at hkl;by_cases hAl : z.d.length < A
  ·have hAl' : decide (z.d.length < A) = true := by simp [hAl]
   have hq2 := hq.out;rw [if_pos (by omega)] at hq2;subst hq2;clear hkl;replace hAl := hid hAl;refine rS (aN e1 (aN e2 (aN e3 (aN e26 (aN hci (aN h00 hAl')))))) ?_;exact ends_le outL rfl
  ·have hAl' : decide (z.d.length < A) = false := by simp; omega
   have hq2 := hq.out;rw [if_neg (by omega)] at hq2;subst hq2;clear hkl;replace hAl := hid hAl;refine rS (aN e1 (aN e2 (aN e3 (aN e26 (aN hci (aN h00 hAl')))))) ?_;obtain ⟨v', g1, g2⟩ := hown.out;exact ends_le (.cons g1 g2 (.nil _)) rfl
theorem ref_FreshDesk : C Tryz.prog 96 [] (.agg (deskC true S.Desk.new)) [] := by
 refine CI Tryz.func96 ?_;refine rC ref_FreshBook ?_;refine rN ?_;have zz : SubL SubC [Int' 0, .nl] (zoneC false S.Zone.zero) := .cons (.refl _) (.cons .nl (.nil _));exact ⟨⟨_, rfl, .one (.agg (.cons (.lst (fun h => h) (.cons zz (.cons zz (.cons zz (.cons zz .nil))))) (.cons (.refl _) (.cons (.refl _) (.cons (.refl _) (.nil _))))))⟩, rfl⟩
theorem onb_eq {b : S.Book} {kind who n : Int} {r : S.Book × Int} (hk : 8 <= kind /\ kind <= 12) (h : S.onBook b kind who n = r) : C Tryz.prog 130 [Bk b, Int' kind, Int' who, Int' n] (.tup [BkN r.1, Int' r.2]) [] := h ▸ ref_OnBook b kind who n hk
theorem ref_MightD {b : S.Book} {who : Int} (write : Bool) (hb : S.checkBook b = 0) (hw : 0 <= who /\ who < 3) : C Tryz.prog 131 [Bk b, Int' who, Bool' write] (Bool' (S.might b who write)) [] := by
 obtain ⟨⟨x0, x1, x2, hk⟩, hw, hc⟩ := ready_shape (ready_who hb hw);obtain ⟨xs, bh, bt⟩ := b;simp only at hk;subst hk;exact ref_Might x0 x1 x2 bh bt who write hw hc
theorem ref_onZ (zs : List S.Zone) (k z n p : Int) (dd : List Int) (hk : 1 <= k /\ k <= 5) : C Tryz.prog 133 [.lst false 2 (zs.map (zoneC false)), Int' k, Int' z, .lst false 1 (I dd)]
  (.tup [.lst false 2 ((S.deskZones zs ⟨k, z, n, p, dd⟩).1.map (zoneC false)), Int' (S.deskZones zs ⟨k, z, n, p, dd⟩).2.pos, Int' (S.deskZones zs ⟨k, z, n, p, dd⟩).2.e]) [] := by
 have : k = 1 \/ k = 2 \/ k = 3 \/ k = 4 \/ k = 5 := by omega
 rcases this with rfl | rfl | rfl | rfl | rfl
 ·exact ref_onzd1 zs z dd
 ·exact ref_onzd2 zs z dd
 ·exact ref_onzd3 zs z dd
 ·exact ref_onzd4 zs z dd
 ·exact ref_onz5 zs z dd
theorem ends_aa {h : Heap} {n : Nat} {c1 t1 c2 t2 : List AV} (h1 : OutL h c1 t1) (h2 : OutL h c2 t2) : Ends [] (.tup [.agg t1, .agg t2]) [] h n (.tup [.agg c1, .agg c2]) := by
 obtain ⟨c1', o1, s1⟩ := h1;obtain ⟨c2', o2, s2⟩ := h2;refine ⟨⟨.tup [.agg c1', .agg c2'], ?_, .tup (.cons (.agg s1) (.cons (.agg s2) (.nil _)))⟩, rfl⟩
 have e1 : outAgg h [] (.agg c1) = some (.agg c1') := by
  show (c1.mapM (outLeaf h [])).map AV.agg = _;rw [o1]; rfl
 have e2 : outAgg h [] (.agg c2) = some (.agg c2') := by
  show (c2.mapM (outLeaf h [])).map AV.agg = _;rw [o2]; rfl
 show (List.mapM (outAgg h []) [.agg c1, .agg c2]).map AV.tup = _;rw [List.mapM_cons, e1, List.mapM_cons, e2];rfl
abbrev doneR (r : S.Desk × S.Answer) : AV := .tup [.agg (deskC false r.1), .agg (ansC false r.2)]
theorem done_book (zs : List S.Zone) (b : S.Book) (who k z n p : Int) (dd : List Int) (hk : 8 <= k /\ k <= 12) : C Tryz.prog 99 [.agg (deskC false ⟨zs, b⟩), Int' who, .agg (cmdC false ⟨k, z, n, p, dd⟩)] (doneR (S.doneDesk ⟨zs, b⟩ who ⟨k, z, n, p, dd⟩)) [] := by
 unfold S.doneDesk;simp only;rw [if_pos hk.1];obtain ⟨r, hr⟩ : ∃ r, S.onBook b k who n = r := ⟨_, rfl⟩;have hb := hid (onb_eq hk hr);rw [hr];clear hr;have k8 : decide (8 <= k) = true := by simp [hk.1]
 clear hk;obtain ⟨m, e⟩ := r;by_cases he : e = 0
 ·subst he;refine CI Tryz.func99 ?_;refine rD k8 hb.out ?_;refine rN ?_;exact ends_aa outL outL
 ·refine CI Tryz.func99 ?_;refine rD k8 hb.out ?_;refine rS he ?_;exact ends_aa outL outL
theorem done_not (zs : List S.Zone) (b : S.Book) (who k z n p : Int) (dd : List Int) (hb : S.checkBook b = 0) (hw : 0 <= who /\ who < 3) (hk : k <= 7) (hm : S.might b who (!decide (k = 7)) = false) : C Tryz.prog 99 [.agg (deskC false ⟨zs, b⟩), Int' who, .agg (cmdC false ⟨k, z, n, p, dd⟩)] (doneR (S.doneDesk ⟨zs, b⟩ who ⟨k, z, n, p, dd⟩)) [] := by
 unfold S.doneDesk;simp only;rw [if_neg (by omega), if_pos hm];have cm := hid (hm ▸ ref_MightD (!decide (k = 7)) hb hw);have k8 : decide (8 <= k) = false := by simp; omega
 clear hk hm hb hw;refine CI Tryz.func99 ?_;refine rD k8 cm.out ?_;refine rN ?_;exact ends_aa outL outL
theorem done_read (zs : List S.Zone) (b : S.Book) (who z n p : Int) (dd : List Int) (h4 : zs.length = 4) (hb : S.checkBook b = 0) (hw : 0 <= who /\ who < 3) (hz : 0 <= z) (hm : S.might b who false = true) : C Tryz.prog 99 [.agg (deskC false ⟨zs, b⟩), Int' who, .agg (cmdC false ⟨7, z, n, p, dd⟩)] (doneR (S.doneDesk ⟨zs, b⟩ who ⟨7, z, n, p, dd⟩)) [] := by
 unfold S.doneDesk;simp only;rw [if_neg (by omega), if_neg (by simp [hm])];have cm := hid (hm ▸ ref_MightD false hb hw)
 have e0 : S.deskZones zs ⟨7, z, n, p, dd⟩ = if 4 <= z then ([], ⟨5, 0, []⟩) else (zs, ⟨(S.readZone (zs.getD z.toNat S.Zone.zero) p n).2, 0, (S.readZone (zs.getD z.toNat S.Zone.zero) p n).1⟩) := by
  unfold S.deskZones;simp [h4]
 by_cases hz4 : 4 <= z
 ·rw [e0, if_pos hz4];have hz' : decide (3 < z) = true := by simp; omega
  clear hm hb hw hz4 e0 hz;refine CI Tryz.func99 ?_;refine rC cm.out ?_;refine rS hz' ?_;exact ends_aa outL outL
 ·rw [e0, if_neg hz4];obtain ⟨Z, rfl⟩ : ∃ Z : Nat, z = Z := ⟨z.toNat, by omega⟩;obtain ⟨zz, hzz⟩ : ∃ zz, zs[Z]? = some zz := ⟨zs[Z]'(by omega), by simp⟩;have e1 : zs.getD (Z : Int).toNat S.Zone.zero = zz := by simp [hzz]
  rw [e1];have cr := hid (ref_ReadZone zz p n);generalize S.readZone zz p n = r at *;have hz' : decide ((3 : Int) < (Z : Int)) = false := by simp; omega
  clear hm hb hw hz4 e0 hz e1;obtain ⟨l, e⟩ := r;have e2 : (if e = 0 then (⟨zs, b⟩ : S.Desk) else ⟨zs, b⟩) = ⟨zs, b⟩ := by split <;> rfl
  simp only;rw [e2];refine CI Tryz.func99 ?_;refine rC cm.out ?_;refine rD (aN hz' hzz) cr.out ?_;refine rN ?_;exact ends_aa outL outL
theorem done_late (zs : List S.Zone) (b : S.Book) (who z n p : Int) (dd : List Int) (h4 : zs.length = 4) (hb : S.checkBook b = 0) (hw : 0 <= who /\ who < 3) (hz : 0 <= z /\ z < 4) (hp : p ≠ (zs.getD z.toNat S.Zone.zero).d.length) (hm : S.might b who true = true) : C Tryz.prog 99 [.agg (deskC false ⟨zs, b⟩), Int' who, .agg (cmdC false ⟨6, z, n, p, dd⟩)] (doneR (S.doneDesk ⟨zs, b⟩ who ⟨6, z, n, p, dd⟩)) [] := by
 unfold S.doneDesk;simp only;rw [if_neg (by omega), if_neg (by simp [hm])];have cm := hid (hm ▸ ref_MightD true hb hw)
 have e0 : S.deskZones zs ⟨6, z, n, p, dd⟩ = ([], ⟨6, 0, []⟩) := by
  unfold S.deskZones;simp only [h4];rw [if_neg (by decide), if_neg (by decide), if_neg (by decide), if_neg (by decide), if_pos ⟨by simp, by simpa using hz.2, hp⟩]
 rw [e0];obtain ⟨Z, rfl⟩ : ∃ Z : Nat, z = Z := ⟨z.toNat, by omega⟩;obtain ⟨zz, hzz⟩ : ∃ zz, zs[Z]? = some zz := ⟨zs[Z]'(by omega), by simp⟩;have hp' : decide (p = (zz.d.length : Int)) = false := by simpa [hzz] using hp
 have hz' : decide ((Z : Int) < 4) = true := by simp; omega
 clear hm hb hw hz e0 hp;refine CI Tryz.func99 ?_;refine rC cm.out ?_;refine rS (aN hz' (aN hzz hp')) ?_;exact ends_aa outL outL
theorem done_write (zs : List S.Zone) (b : S.Book) (who z n p : Int) (dd : List Int) (h4 : zs.length = 4) (hb : S.checkBook b = 0) (hw : 0 <= who /\ who < 3) (hz : 0 <= z) (hp : ¬ (z < 4 /\ p ≠ (zs.getD z.toNat S.Zone.zero).d.length)) (hm : S.might b who true = true) : C Tryz.prog 99 [.agg (deskC false ⟨zs, b⟩), Int' who, .agg (cmdC false ⟨6, z, n, p, dd⟩)] (doneR (S.doneDesk ⟨zs, b⟩ who ⟨6, z, n, p, dd⟩)) [] := by
 unfold S.doneDesk;simp only;rw [if_neg (by omega), if_neg (by simp [hm])];have cm := hid (hm ▸ ref_MightD true hb hw)
 have e0 : S.deskZones zs ⟨6, z, n, p, dd⟩ = ((S.writeZ zs z dd).1, ⟨(S.writeZ zs z dd).2.2, (S.writeZ zs z dd).2.1, []⟩) := by
  unfold S.deskZones;simp only [h4];rw [if_neg (by decide), if_neg (by decide), if_neg (by decide), if_neg (by decide), if_neg (fun h => hp ⟨by simpa using h.2.1, h.2.2⟩), if_pos (by simp)]
 rw [e0];clear e0;have co := hid (ref_onz5 zs z dd);generalize S.writeZ zs z dd = r at *;obtain ⟨zs', at', e⟩ := r;simp only
 have cs : (decide (z < 4) = false) \/ (decide (z < 4) = true /\ ∃ (Z : Nat) (zz : S.Zone), z = Z /\ zs[Z]? = some zz /\ decide (p = (zz.d.length : Int)) = true) := by
  by_cases h : z < 4
  ·right;obtain ⟨Z, rfl⟩ : ∃ Z : Nat, z = Z := ⟨z.toNat, by omega⟩;obtain ⟨zz, hzz⟩ : ∃ zz, zs[Z]? = some zz := ⟨zs[Z]'(by omega), by simp⟩;refine ⟨by simp [h], Z, zz, rfl, hzz, ?_⟩;have : ¬ (p ≠ (zs.getD (Z : Int).toNat S.Zone.zero).d.length) := fun g => hp ⟨h, g⟩
   simpa [hzz] using this
  ·left; simp [h]
 clear hm hb hw hz hp h4;rcases cs with c1 | ⟨c1, Z, zz, rfl, hzz, c2⟩
 ·by_cases he : e = 0
  ·subst he;refine CI Tryz.func99 ?_;refine rC cm.out ?_;refine rD c1 co.out ?_;refine rN ?_;exact ends_aa outL outL
  ·refine CI Tryz.func99 ?_;refine rC cm.out ?_;refine rD c1 co.out ?_;refine rS he ?_;exact ends_aa outL outL
 ·by_cases he : e = 0
  ·subst he;refine CI Tryz.func99 ?_;refine rC cm.out ?_;refine rD (aN c1 (aN hzz c2)) co.out ?_;refine rN ?_;exact ends_aa outL outL
  ·refine CI Tryz.func99 ?_;refine rC cm.out ?_;refine rD (aN c1 (aN hzz c2)) co.out ?_;refine rS he ?_;exact ends_aa outL outL
theorem done_zones (zs : List S.Zone) (b : S.Book) (who k z n p : Int) (dd : List Int) (hb : S.checkBook b = 0) (hw : 0 <= who /\ who < 3) (hk : 1 <= k /\ k <= 5) (hm : S.might b who true = true) : C Tryz.prog 99 [.agg (deskC false ⟨zs, b⟩), Int' who, .agg (cmdC false ⟨k, z, n, p, dd⟩)] (doneR (S.doneDesk ⟨zs, b⟩ who ⟨k, z, n, p, dd⟩)) [] := by
 unfold S.doneDesk;simp only;have h7 : (!decide (k = 7)) = true := by simp; omega
 rw [if_neg (by omega), if_neg (by rw [h7]; simp [hm])];have cm := hid (hm ▸ ref_MightD true hb hw);have co := hid (ref_onZ zs k z n p dd hk)
 have hd : (S.deskZones zs ⟨k, z, n, p, dd⟩).2.d = [] := by
  have : k = 1 \/ k = 2 \/ k = 3 \/ k = 4 \/ k = 5 := by omega
  rcases this with rfl | rfl | rfl | rfl | rfl <;> rfl
 generalize S.deskZones zs ⟨k, z, n, p, dd⟩ = r at *;obtain ⟨zs', e, at', l⟩ := r;simp only at hd;subst hd;simp only;have k8 : decide (8 <= k) = false := by simp; omega
 have k7 : decide (k = 7) = false := by simp; omega
 have k6 : decide (k = 6) = false := by simp; omega
 clear hk hm hb hw h7;by_cases he : e = 0
 ·subst he;refine CI Tryz.func99 ?_;refine rD (aN k8 k7) cm.out ?_;refine rD (aN k7 k6) co.out ?_;refine rN ?_;exact ends_aa outL outL
 ·refine CI Tryz.func99 ?_;refine rD (aN k8 k7) cm.out ?_;refine rD (aN k7 k6) co.out ?_;refine rS he ?_;exact ends_aa outL outL
theorem ref_Done (d : S.Desk) (who : Int) (c : S.Cmd) (h : Pre d who c) : C Tryz.prog 99 [.agg (deskC false d), Int' who, .agg (cmdC false c)] (doneR (S.doneDesk d who c)) [] := by
 obtain ⟨sm, -, hb⟩ := small_of h.d0;obtain ⟨f1, f2, f3, -⟩ := cmd_facts h.c0;have h4 := sm.n;have hw : 0 <= who /\ who < 3 := ⟨h.w0, h.w1⟩;obtain ⟨zs, b⟩ := d;obtain ⟨k, z, n, p, dd⟩ := c;simp only at f1 f2 f3 h4 hb;clear sm h;by_cases k8 : 8 <= k
 ·exact done_book zs b who k z n p dd ⟨k8, f2⟩
 cases hm : S.might b who (!decide (k = 7)) with
 | false => exact done_not zs b who k z n p dd hb hw (by omega) hm
 | true =>
  by_cases k7 : k = 7
  ·subst k7;exact done_read zs b who z n p dd h4 hb hw f3 (by simpa using hm)
  rw [show (!decide (k = 7)) = true by simp [k7]] at hm;by_cases k6 : k = 6
  ·subst k6;by_cases hp : z < 4 /\ p ≠ (zs.getD z.toNat S.Zone.zero).d.length
   ·exact done_late zs b who z n p dd h4 hb hw ⟨f3, hp.1⟩ hp.2 hm
   ·exact done_write zs b who z n p dd h4 hb hw f3 hp hm
  ·exact done_zones zs b who k z n p dd hb hw (by omega) hm
end Go.Proofs.YtadmfokicjjglaaGreatDoor.E
