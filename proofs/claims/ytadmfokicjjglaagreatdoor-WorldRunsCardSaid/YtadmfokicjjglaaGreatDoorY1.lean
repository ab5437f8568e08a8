/- Y1: Yb: zones: written, read; zones of which few may be open. Yc: zones of which few may be open: counted, checked, copied. Yd: zones of which few may be open: closed, finished, reset. Ye: room for a zone; zones that are held open, written. Yf: zones that are held open, written. Yg: plain laws of zones of which few may be open. Yh: law.crowded, law.YardWrites. -/
import Derived.Test.YtadmfokicjjglaaGreatDoorY0
import Derived.Test.YtadmfokicjjglaaGreatDoorX3
namespace Go.Proofs.YtadmfokicjjglaaGreatDoor.E
open Go.RowKit Go.Proofs
set_option maxRecDepth 100000
set_option maxHeartbeats 1000000
set_option linter.unusedSimpArgs false
theorem len2 {α : Type} {l : List α} (h : l.length = 2) : ∃ a b, l = [a, b] := by
 match l, h with
 | [a, b], _ => exact ⟨a, b, rfl⟩
theorem equalFunc_zones {α : Type} {enc : α -> List AV} {eq : α -> α -> Bool} {f : FuncId} (he : ∀ x, (enc x).length = 2) (xs ys : List α) (hf : ∀ x y, x ∈ xs -> y ∈ ys -> C Tryz.prog f [.agg (enc x), .agg (enc y)] (Bool' (eq x y)) []) (hp : ∀ (x : α) (h : Heap), viewV h (.agg (enc x)) = some (.agg (enc x)) /\ plainV (.agg (enc x)) = true) :
  C Tryz.prog 148 [.lst false 2 (xs.map enc), .lst false 2 (ys.map enc), .fn f []] (Bool' (eqAll eq xs ys)) [] := by
 refine C_real (fun _ _ => by kernel_rfl) rfl rfl fun hr => ?_
 have hx := (hr.get (j := 0) rfl).len;rw [List.length_map] at hx;unfold maxLen at hx;refine CI Tryz.func148 ?_;refine rN ?_;refine brA_split (fun h1 => ?_) (fun h1 => ?_);rotate_left
 ·refine rN ?_;refine ends_bool (Eq.symm (Bool.eq_false_iff.2 fun h => ?_));have := eqAll_len h;simp at h1;omega
 have hl : xs.length = ys.length := by simp at h1; omega
 refine rN ?_;refine loop_count 17 xs.length (fun k _ m _ => (∃ d, m = d + 20) /\ Hid (∀ (j : Nat), j < k -> ∀ (x y : α), xs[j]? = some x -> ys[j]? = some y -> eq x y = true)) _ rfl (by rfl) ⟨⟨_, rfl⟩, by intro j hj; omega⟩ ?_ ?_
 ·rintro k t h m hk hci hs ⟨⟨d, rfl⟩, hb⟩;have hw : IntKind.i64.wrap ((k : Int) + 1) = (k : Int) + 1 := wrap_ok (by omega);obtain ⟨x, hx⟩ : ∃ x, xs[k]? = some x := ⟨xs[k], by simp⟩;obtain ⟨y, hy⟩ : ∃ y, ys[k]? = some y := ⟨ys[k]'(by omega), by simp⟩;have hk' : decide (k < xs.length) = true := by simp [hk]
  have e0 := hs 0 rfl;have e1 := hs 1 rfl;have e2 := hs 2 rfl;have e15 := hs 15 rfl;have e16 := hs 16 rfl;clear hs;simp -dsimp -implicitDefEqProofs at e0 e1 e2 e15 e16;have hex := he x;have hey := he y;replace hk := hid hk;replace hl := hid hl;have hf' := hid (hf x y (List.mem_of_getElem? hx) (List.mem_of_getElem? hy));obtain ⟨a0, a1, ea⟩ := len2 hex;obtain ⟨b0, b1, eb⟩ := len2 hey;have px := fun h => (hp x h).1
  have py := fun h => (hp y h).1
  have qx := (hp x (fun _ => none)).2;have qy := (hp y (fun _ => none)).2;rw [ea] at hf' px qx;rw [eb] at hf' py qy;replace px := hid px;replace py := hid py;clear hf hp;refine rS (aN e0 (aN e1 (aN e2 (aN e15 (aN e16 (aN hci (aN hk' (aN hx (aN hy (aN ea eb)))))))))) ?_;refine call_C hf'.out (by rw [List.mapM_cons, px.out, List.mapM_cons, py.out]; rfl) (Or.inr (by rw [List.all_cons, qx, List.all_cons, qy]; rfl)) (Nat.le_of_ble_eq_true rfl) ?_;refine rN ?_;cases hxy : eq x y
  ·refine rN ?_;refine ends_bool (Eq.symm (Bool.eq_false_iff.2 fun h => ?_));have := (eqAll_get.1 h).2 k x y hx hy;rw [hxy] at this;cases this
  ·refine rS (aN hw (aN hci (aN e0 (aN e1 (aN e2 (aN e15 e16)))))) ?_;intro j hj x' y' hx' hy';rcases Nat.lt_or_ge j k with g | g
   ·exact hb.out j g x' y' hx' hy'
   ·have : j = k := by omega
    subst this;rw [hx] at hx';rw [hy] at hy';cases hx'; cases hy'
    exact hxy
 ·rintro t h m hci hs ⟨⟨d, rfl⟩, hb⟩;have e0 := hs 0 rfl;have e1 := hs 1 rfl;have e2 := hs 2 rfl;have e15 := hs 15 rfl;have e16 := hs 16 rfl;clear hs;simp -dsimp -implicitDefEqProofs at e0 e1 e2 e15 e16;refine rS (aN e0 (aN e1 (aN e2 (aN e15 (aN e16 hci))))) ?_;exact ends_bool (Eq.symm (eqAll_get.2 ⟨hl, fun j x y hx hy => hb.out j (List.getElem?_eq_some_iff.1 hx).1 x y hx hy⟩))
theorem zone_Copy (z : S.Zone) (hl : z.d.length <= 100000000) : C Tryz.prog 181 [.agg (zoneC false z)] (.agg [Int' z.st, .own 0 0 z.d.length]) [⟨3, 1, I z.d⟩] := by
 refine C_inline [16] Tryz.func181 (fun _ _ => by kernel_rfl) rfl (by kernel_rfl) (by rfl) (by decide) (by rfl) (by rfl) (by first | rfl | exact plain_I _ | exact plain_map (fun _ => rfl) _) ?_;refine rC (clone_int z.d hl) ?_;refine rN ?_;exact ⟨⟨_, rfl, Sub.refl _⟩, rfl⟩
theorem zone_CopyN (z : S.Zone) (hl : z.d.length <= 100000000) : C Tryz.prog 181 [.agg (zoneC false z)] (.agg (zoneC true z)) [] := by
 refine CI Tryz.func181 ?_;refine rC (clone_int z.d hl) ?_;refine rN ?_;exact ⟨⟨.agg (zoneC true z), by simp -dsimp -implicitDefEqProofs, Sub.refl _⟩, rfl⟩
theorem checkZone_len {z : S.Zone} (h : S.checkZone z = 0) : z.d.length <= 8 := by
 unfold S.checkZone at h;split at h; · cases h
 split at h; · cases h
 omega
theorem zone_Write (z : S.Zone) (l : List Int) : C Tryz.prog 213 [.agg (zoneC false z), .lst false 1 (I l)] (.tup [.agg (zoneC true (S.writeZone z l).1), Int' (S.writeZone z l).2]) [] := by
 obtain ⟨st, xs⟩ := z;obtain ⟨r, hr⟩ : ∃ r, S.writeZone ⟨st, xs⟩ l = r := ⟨_, rfl⟩;rw [hr];unfold S.writeZone at hr;have hlen := fun e => checkZone_len (z := ⟨st, xs⟩) e
 simp only at hr hlen;replace hr := hid hr;replace hlen := hid hlen;refine CI Tryz.func213 ?_;refine rC (zone_Check ⟨st, xs⟩) ?_;refine rN ?_;refine brA_split (fun h1 => ?_) (fun h1 => ?_);rotate_left
 ·obtain rfl : r = (S.Zone.zero, S.checkZone ⟨st, xs⟩) := by rw [<- hr.out]; simp at h1; simp [h1]
  refine rN ?_;exact ends_ag outL rfl
 simp at h1;have hl := hlen.out h1;have hr2 := hr.out;rw [if_neg (by simp [h1])] at hr2;replace hr2 := hid hr2;clear hr hlen;refine rN ?_;refine brA_split (fun h2 => ?_) (fun h2 => ?_)
 ·obtain rfl : r = (S.Zone.zero, 2) := by rw [<- hr2.out, if_pos (by simp at h2; grind)]
  refine rN ?_;exact ends_ag outL rfl
 have hr3 := hr2.out;rw [if_neg (by simp at h2; grind)] at hr3;replace hr3 := hid hr3;clear hr2;have hl2 : l.length <= 8 := by simp at h2; omega
 clear h2;refine rC (containsFunc_int S.bad _ l zone_bad) ?_;refine rN ?_;refine brA_split (fun h3 => ?_) (fun h3 => ?_)
 ·obtain rfl : r = (S.Zone.zero, 3) := by rw [<- hr3.out, if_pos h3]
  refine rN ?_;exact ends_ag outL rfl
 have hr4 := hr3.out;rw [if_neg (by simp [h3])] at hr4;replace hr4 := hid hr4;clear hr3;have hw : IntKind.i64.wrap (8 - (xs.length : Int)) = 8 - (xs.length : Int) := wrap_ok (by omega);refine rS hw ?_;refine brA_split (fun h4 => ?_) (fun h4 => ?_)
 ·obtain rfl : r = (S.Zone.zero, 7) := by rw [<- hr4.out, if_pos (by simp at h4; omega)]
  refine rN ?_;exact ends_ag outL rfl
 have hr5 := hr4.out;rw [if_neg (by simp at h4; omega)] at hr5;subst hr5;clear hr4;have d1 : decide (100000000 < l.length) = false := by simp; omega
 have d2 : xs.length <= 100000000 := by omega
 refine rC (zone_Copy ⟨st, xs⟩ (by simp only; omega)) ?_;refine rS (aN d1 d2) ?_;by_cases c2 : st = 2
 ·subst c2;refine rN ?_;by_cases c8 : (xs.length : Int) + l.length = 8
  ·have c8' : xs.length + l.length = 8 := by omega
   refine rS c8 ?_;exact ends_ag (by rw [if_pos c8']; exact outL) rfl
  ·have c8' : ¬ xs.length + l.length = 8 := by omega
   refine rS c8 ?_;exact ends_ag (by simp only [c8']; exact outL) rfl
 ·refine rS c2 ?_;by_cases c8 : (xs.length : Int) + l.length = 8
  ·have c8' : xs.length + l.length = 8 := by omega
   refine rS c8 ?_;exact ends_ag (by rw [if_pos c8']; exact outL) rfl
  ·have c8' : ¬ xs.length + l.length = 8 := by omega
   refine rS c8 ?_;exact ends_ag (by simp only [c8', c2]; exact outL) rfl
theorem ends_le {h : Heap} {n : Nat} {c target : AV} {e e' : Int} (ho : OutL h [c] [target]) (he : e = e') : Ends [] (.tup [target, Int' e']) [] h n (.tup [c, Int' e]) := by
 subst he;obtain ⟨cells', ho, hs⟩ := ho;cases hc : outLeaf h [] c with
 | none => rw [List.mapM_cons, hc] at ho; cases ho
 | some c' =>
  rw [List.mapM_cons, hc] at ho;simp at ho;subst ho
  have h1 : outAgg h [] c = some c' := by
   rw [<- hc];cases c <;> first | rfl | (simp [outLeaf] at hc)
  refine ⟨⟨.tup [c', Int' e], ?_, .tup (.cons (.leaf (hs.2 0 _ _ rfl rfl)) (.cons (.leaf (.refl _)) (.nil _)))⟩, rfl⟩;show (List.mapM (outAgg h []) [c, Int' e]).map AV.tup = _;rw [List.mapM_cons, h1];rfl
theorem zone_Read (z : S.Zone) (a n : Int) : C Tryz.prog 191 [.agg (zoneC false z), Int' a, Int' n] (.tup [.lst true 1 (I (S.readZone z a n).1), Int' (S.readZone z a n).2]) [] := by
 obtain ⟨st, xs⟩ := z;obtain ⟨r, hr⟩ : ∃ r, S.readZone ⟨st, xs⟩ a n = r := ⟨_, rfl⟩;rw [hr];unfold S.readZone at hr;have hlen := fun e => checkZone_len (z := ⟨st, xs⟩) e
 simp only at hr hlen;replace hr := hid hr;replace hlen := hid hlen;refine CI Tryz.func191 ?_;refine rC (zone_Check ⟨st, xs⟩) ?_;refine rN ?_;refine brA_split (fun h1 => ?_) (fun h1 => ?_);rotate_left
 ·obtain rfl : r = ([], S.checkZone ⟨st, xs⟩) := by rw [<- hr.out]; simp at h1; simp [h1]
  refine rN ?_;exact ends_le outL rfl
 simp at h1;have hl := hlen.out h1;have hr2 := hr.out;rw [if_neg (by simp [h1])] at hr2;replace hr2 := hid hr2;clear hr hlen;refine rN ?_;by_cases c1 : a < 0 \/ 8 < a
 ·have e1 : (decide (a < 0) || decide (8 < a)) = true := by simpa using c1
  refine rS e1 ?_;obtain rfl : r = ([], 3) := by rw [<- hr2.out, if_pos (by omega)]
  exact ends_le outL rfl
 have hw : IntKind.i64.wrap (8 - a) = 8 - a := wrap_ok (by omega);refine rS hw ?_;refine brA_split (fun h2 => ?_) (fun h2 => ?_)
 ·obtain rfl : r = ([], 3) := by rw [<- hr2.out, if_pos (by simp at h2; omega)]
  refine rN ?_;exact ends_le outL rfl
 have hr3 := hr2.out;rw [if_neg (by simp at h2; omega)] at hr3;replace hr3 := hid hr3;clear hr2;simp at h2;have hw2 : IntKind.i64.wrap (a + n) = a + n := wrap_ok (by omega);refine rS hw2 ?_;refine brA_split (fun h3 => ?_) (fun h3 => ?_)
 ·obtain rfl : r = ([], 6) := by rw [<- hr3.out, if_pos (by simpa using h3)]
  refine rN ?_;exact ends_le outL rfl
 have hr4 := hr3.out;rw [if_neg (by simpa using h3)] at hr4;subst hr4;clear hr3;simp at h3;obtain ⟨a', rfl⟩ : ∃ a' : Nat, a = a' := ⟨a.toNat, by omega⟩;obtain ⟨n', rfl⟩ : ∃ n' : Nat, n = n' := ⟨n.toNat, by omega⟩;have d1 : a' <= a' + n' := by omega
 have d2 : a' + n' <= xs.length := by omega
 have d3 : ((a' : Int) + (n' : Int)).toNat = a' + n' := by omega
 have d4 : (0 : Int) <= (a' : Int) + (n' : Int) := by omega
 have dr : (xs.take (a' + n')).drop a' = (xs.drop a').take n' := by rw [List.drop_take]; congr 1; omega
 have hcl := hid (clone_int ((xs.take (a' + n')).drop a') (by simp; omega));rw [dr] at hcl;refine rD (aN hw2 (aN d1 (aN d2 (aN d3 (aN d4 dr))))) hcl.out ?_;refine rN ?_;exact ends_le outL rfl
theorem equal_zones (xs ys : List S.Zone) : C Tryz.prog 148 [.lst false 2 (xs.map (zoneC false)), .lst false 2 (ys.map (zoneC false)), .fn 158 []] (Bool' (decide (xs = ys))) [] := by
 rw [<- eqAll_dec];exact equalFunc_zones (fun _ => rfl) xs ys (fun x y _ _ => zone_Same x y) (fun _ _ => ⟨rfl, rfl⟩)
theorem equal_zones_ref (xs ys : List S.Zone) : C Tryz.prog 148 [.lst false 2 (xs.map (zoneC false)), .lst false 2 (ys.map (zoneC false)), .fn 149 []] (Bool' (decide (xs = ys))) [] := by
 rw [<- eqAll_dec];exact equalFunc_zones (fun _ => rfl) xs ys (fun x y _ _ => ref_SameZone x y) (fun _ _ => ⟨rfl, rfl⟩)
theorem yard_Same (xs ys : List S.Zone) : C Tryz.prog 123 [.lst false 2 (xs.map (zoneC false)), .lst false 2 (ys.map (zoneC false))] (Bool' (decide (xs = ys))) [] := by
 refine CI Tryz.func123 ?_;refine rC (equal_zones xs ys) ?_;refine rN ?_;exact ends_bool rfl
theorem ref_SameZones (xs ys : List S.Zone) : C Tryz.prog 119 [.lst false 2 (xs.map (zoneC false)), .lst false 2 (ys.map (zoneC false))] (Bool' (decide (xs = ys))) [] := by
 refine CI Tryz.func119 ?_;refine rC (equal_zones_ref xs ys) ?_;refine rN ?_;exact ends_bool rfl
theorem take_succ_get {α : Type} {xs : List α} {k : Nat} {x : α} (h : xs[k]? = some x) : xs.take (k + 1) = xs.take k ++ [x] := by
 rw [List.take_add_one, h]; rfl
theorem countP_take {α : Type} {p : α -> Bool} {xs : List α} {k : Nat} {x : α} (h : xs[k]? = some x) : (xs.take (k + 1)).countP p = (xs.take k).countP p + (if p x = true then 1 else 0) := by
 rw [take_succ_get h, List.countP_append, List.countP_singleton]
theorem yard_count (zs : List S.Zone) (ss : List Int) : C Tryz.prog 209 [.lst false 2 (zs.map (zoneC false)), .lst false 1 (I ss)] (Int' (zs.countP fun z => ss.any fun s => decide (s = z.st))) [] := by
 refine C_real (fun _ _ => by kernel_rfl) rfl rfl fun hr => ?_
 have hlen := (hr.get (j := 0) rfl).len;rw [List.length_map] at hlen;unfold maxLen at hlen;clear hr;generalize hp : (fun z : S.Zone => ss.any fun s => decide (s = z.st)) = p;have hp' : ∀ z, (ss.any fun s => decide (s = z.st)) = p z := fun z => by rw [<- hp]
 replace hp := hid hp;have hcon := fun v => slices_Contains ss v
 replace hcon := hid hcon;refine CI Tryz.func209 ?_;refine rN ?_;refine loop_count 10 zs.length (fun k _ m t => t 5 = Int' ((zs.take k).countP p) /\ ∃ d, m = d + 8) _ rfl (by rfl) ⟨by simp, ⟨_, rfl⟩⟩ ?_ ?_
 ·rintro k t h m hk hci hs ⟨h5, d, rfl⟩;have hw : IntKind.i64.wrap ((k : Int) + 1) = (k : Int) + 1 := wrap_ok (by omega);obtain ⟨x, hx⟩ : ∃ x, zs[k]? = some x := ⟨zs[k], by simp⟩;have hk' : decide (k < zs.length) = true := by simp [hk]
  have hct := countP_take (p := p) hx;have hle : (zs.take k).countP p <= k := Nat.le_trans List.countP_le_length (by simp; omega);have hw2 : IntKind.i64.wrap (((zs.take k).countP p : Int) + 1) = ((zs.take k).countP p : Int) + 1 := wrap_ok (by omega);have e1 := hs 1 rfl;have e8 := hs 8 rfl;have e9 := hs 9 rfl;clear hs;simp -dsimp -implicitDefEqProofs at e1 e8 e9;replace hk := hid hk;refine rD (aN e1 (aN e8 (aN e9 (aN hci (aN hk' (aN hx h5)))))) (hcon.out x.st) ?_;rw [hp' x];refine rN ?_;cases hpx : p x
  ·refine rS (aN hw (aN hci (aN h5 (aN e1 (aN e8 e9))))) ?_;rw [hct, hpx]; simp
  ·refine rS (aN hw (aN hw2 (aN hci (aN h5 (aN e1 (aN e8 e9)))))) ?_;rw [hct, hpx]; simp
 ·rintro t h m hci hs ⟨h5, d, rfl⟩;have e1 := hs 1 rfl;have e8 := hs 8 rfl;have e9 := hs 9 rfl;clear hs;simp -dsimp -implicitDefEqProofs at e1 e8 e9;refine rS (aN e1 (aN e8 (aN e9 (aN hci h5)))) ?_;exact ends_int (by simp)
theorem count_open (zs : List S.Zone) : C Tryz.prog 209 [.lst false 2 (zs.map (zoneC false)), .lst false 1 [[Int' 1], [Int' 2]]] (Int' (zs.countP S.isOpen)) [] := by
 have h := yard_count zs [1, 2]
 have e : (fun z : S.Zone => [1, 2].any fun s => decide (s = z.st)) = S.isOpen := by
  funext z; simp [S.isOpen, eq_comm]
 rw [e] at h;exact h
theorem count_active (zs : List S.Zone) : C Tryz.prog 209 [.lst false 2 (zs.map (zoneC false)), .lst false 1 [[Int' 1], [Int' 2], [Int' 3]]] (Int' (zs.countP S.isActive)) [] := by
 have h := yard_count zs [1, 2, 3]
 have e : (fun z : S.Zone => [1, 2, 3].any fun s => decide (s = z.st)) = S.isActive := by
  funext z; simp [S.isActive, eq_comm]
 rw [e] at h;exact h
theorem yard_Check (zs : List S.Zone) : C Tryz.prog 182 [.lst false 2 (zs.map (zoneC false))] (Int' (S.checkZones zs)) [] := by
 obtain ⟨r, hr⟩ : ∃ r, S.checkZones zs = r := ⟨_, rfl⟩;rw [hr];unfold S.checkZones at hr;replace hr := hid hr;refine CI Tryz.func182 ?_;refine rN ?_;refine brA_split (fun h1 => ?_) (fun h1 => ?_);rotate_left
 ·refine rN ?_;exact ends_int (by simp at h1; rw [<- hr.out, if_pos (by omega)])
 simp at h1;have hl : zs.length = 4 := by omega
 refine rN ?_;refine loop_count 11 zs.length (fun k _ m t => (∃ d, m = d + 8) /\ Hid (∀ (j : Nat) (x : S.Zone), j < k -> zs[j]? = some x -> S.checkZone x = 0)) _ rfl (by rfl) ⟨⟨_, rfl⟩, by intro j x hj; omega⟩ ?_ ?_
 ·rintro k t h m hk hci hs ⟨⟨d, rfl⟩, hb⟩;have hw : IntKind.i64.wrap ((k : Int) + 1) = (k : Int) + 1 := wrap_ok (by omega);obtain ⟨x, hx⟩ : ∃ x, zs[k]? = some x := ⟨zs[k], by simp⟩;have hk' : decide (k < zs.length) = true := by simp [hk]
  have e0 := hs 0 rfl;have e9 := hs 9 rfl;have e10 := hs 10 rfl;clear hs;simp -dsimp -implicitDefEqProofs at e0 e9 e10;replace hk := hid hk;refine rD (aN e0 (aN e9 (aN e10 (aN hci (aN hk' hx))))) (zone_Check x) ?_;refine rN ?_;refine brA_split (fun g1 => ?_) (fun g1 => ?_)
  ·refine rS (aN hw (aN hci (aN e0 (aN e9 e10)))) ?_;exact upto_succ hb.out hx (by simpa using g1)
  ·refine rN ?_;exact ends_int (by rw [<- hr.out, if_neg (by omega), firstBad_at hb.out hx (by simpa using g1), if_pos (by simpa using g1)])
 ·rintro t h m hci hs ⟨⟨d, rfl⟩, hb⟩;have hfb := firstBad_none (f := S.checkZone) (xs := zs) hb.out;have e0 := hs 0 rfl;have e9 := hs 9 rfl;have e10 := hs 10 rfl;clear hs;simp -dsimp -implicitDefEqProofs at e0 e9 e10;refine rD (aN e0 (aN e9 (aN e10 hci))) (count_open zs) ?_;refine rS (aN e0 (aN e9 e10)) ?_;by_cases c1 : 2 < zs.countP S.isOpen
  ·have c1' : decide ((2 : Int) < (zs.countP S.isOpen : Int)) = true := by simp; omega
   refine rS (aN c1' (aN e0 (aN e9 e10))) ?_;exact ends_int (by rw [<- hr.out, if_neg (by omega), hfb, if_neg (by simp), if_pos (Or.inl c1)])
  ·have c1' : decide ((2 : Int) < (zs.countP S.isOpen : Int)) = false := by simp; omega
   refine rD (aN c1' (aN e0 (aN e9 e10))) (count_active zs) ?_;refine rS (aN e0 (aN e9 e10)) ?_;refine brA_split (fun g1 => ?_) (fun g1 => ?_)
   ·refine rN ?_;exact ends_int (by simp at g1; rw [<- hr.out, if_neg (by omega), hfb, if_neg (by simp), if_pos (Or.inr (by omega))])
   ·refine rN ?_;exact ends_int (by simp at g1; rw [<- hr.out, if_neg (by omega), hfb, if_neg (by simp), if_neg (by omega)])
theorem checkZones_parts {zs : List S.Zone} (h : S.checkZones zs = 0) : zs.length = 4 /\ (∀ z, z ∈ zs -> S.checkZone z = 0) /\ zs.countP S.isOpen <= 2 /\ zs.countP S.isActive <= 3 := by
 unfold S.checkZones at h;by_cases h1 : zs.length ≠ 4
 ·rw [if_pos h1] at h; cases h
 rw [if_neg h1] at h;by_cases h2 : S.firstBad S.checkZone zs ≠ 0
 ·rw [if_pos h2] at h; exact absurd h h2
 rw [if_neg h2] at h;by_cases h3 : 2 < zs.countP S.isOpen \/ 3 < zs.countP S.isActive
 ·rw [if_pos h3] at h; cases h
 exact ⟨by omega, fun z hz => firstBad_zero (by simpa using h2) z hz, by omega, by omega⟩
theorem yard_Copy (zs : List S.Zone) (h1 : zs.length <= 100000) (h2 : ∀ z, z ∈ zs -> z.d.length <= 100000) : C Tryz.prog 146 [.lst false 2 (zs.map (zoneC false))] (.own 0 0 zs.length) [⟨91, 2, zs.map (zoneC true)⟩] := by
 have hcl := clone_zones (zs.map (zoneC false)) (by simp; omega) (plain_map (fun _ => rfl) _);simp only [List.length_map] at hcl;replace hcl := hid hcl;replace h2 := hid h2;refine C_inline [8] Tryz.func146 (fun _ _ => by kernel_rfl) rfl (by kernel_rfl) (by rfl) (by decide) (by rfl) (by rfl) (by first | rfl | exact plain_I _ | exact plain_map (fun _ => rfl) _) ?_;refine rC hcl.out ?_;refine rN ?_;refine loop_count 9 zs.length (fun k h m _ => h 8 = some ⟨91, 2, mix (zoneC true) (zoneC false) zs k⟩ /\ ∃ d, m = d + 12) _ rfl (by rfl) ⟨by simp, ⟨_, rfl⟩⟩ ?_ ?_
 ·rintro k t h m hk hci hs ⟨h8, d, rfl⟩;have hw : IntKind.i64.wrap ((k : Int) + 1) = (k : Int) + 1 := wrap_ok (by omega);obtain ⟨x, hx⟩ : ∃ x, zs[k]? = some x := ⟨zs[k], by simp⟩;have hk' : decide (k < zs.length) = true := by simp [hk]
  have hm := mix_get (f := zoneC true) (g := zoneC false) hx;have e0 := hs 0 rfl;have e7 := hs 7 rfl;have e8 := hs 8 rfl;clear hs;simp -dsimp -implicitDefEqProofs at e0 e7 e8;have hx3 := h2.out x (List.mem_of_getElem? hx);have hms := mix_set (f := zoneC true) (g := zoneC false) hx;refine rD (aN e0 (aN e7 (aN e8 (aN hci (aN hk' (aN hm (aN h8 hk))))))) (zone_CopyN x (by omega)) ?_;exact rW (aN h8 (aN hk (aN e0 (aN e7 (aN e8 (aN hci (aN hw (aN hm hms))))))))
 ·rintro t h m hci hs ⟨h8, d, rfl⟩;have e0 := hs 0 rfl;have e7 := hs 7 rfl;have e8 := hs 8 rfl;clear hs;simp -dsimp -implicitDefEqProofs at e0 e7 e8;refine rS (aN e0 (aN e7 (aN e8 hci))) ?_;exact ⟨⟨.own 0 0 zs.length, by rfl, Sub.refl _⟩, by simp [h8]⟩
theorem ready_parts {zs : List S.Zone} {k : Int} (h : S.readyZ zs k = 0) : S.checkZones zs = 0 /\ ∃ (n : Nat) (z : S.Zone), k = (n : Int) /\ n < 4 /\ zs[n]? = some z := by
 unfold S.readyZ at h;by_cases h1 : S.checkZones zs ≠ 0
 ·rw [if_pos h1] at h; exact absurd h h1
 rw [if_neg h1] at h;by_cases h2 : k < 0 \/ 4 <= k
 ·rw [if_pos h2] at h; cases h
 have h1 : S.checkZones zs = 0 := by simpa using h1
 have hl := (checkZones_parts h1).1;refine ⟨h1, k.toNat, zs[k.toNat]'(by omega), by omega, by omega, by simp⟩
theorem yard_ready_bad (zs : List S.Zone) (k : Int) (h : S.readyZ zs k ≠ 0) : C Tryz.prog 210 [.lst false 2 (zs.map (zoneC false)), Int' k] (.tup [.nl, Int' (S.readyZ zs k)]) [] := by
 obtain ⟨r, hr⟩ : ∃ r, S.readyZ zs k = r := ⟨_, rfl⟩;rw [hr] at h ⊢;unfold S.readyZ at hr;replace hr := hid hr;refine CI Tryz.func210 ?_;refine rC (yard_Check zs) ?_;refine rN ?_;refine brA_split (fun h1 => ?_) (fun h1 => ?_);rotate_left
 ·obtain rfl : S.checkZones zs = r := by rw [<- hr.out, if_pos (by simpa using h1)]
  refine rN ?_;exact ⟨⟨_, rfl, Sub.refl _⟩, rfl⟩
 simp at h1;have hl := (checkZones_parts h1).1;have hl' : (zs.length : Int) = 4 := by omega
 have hr2 := hr.out;rw [if_neg (by simp [h1])] at hr2
 have hk : k < 0 \/ 4 <= k := by
  by_cases g : k < 0 \/ 4 <= k
  ·exact g
  ·rw [if_neg g] at hr2; exact absurd hr2.symm h
 rw [if_pos hk] at hr2;subst hr2;have hk' : (decide (k < 0) || decide (4 <= k)) = true := by simpa using hk
 clear hr;refine rS (aN hl' hk') ?_;exact ⟨⟨_, rfl, Sub.refl _⟩, rfl⟩
theorem yard_ready_ok (zs : List S.Zone) (k : Int) (h : S.readyZ zs k = 0) : C Tryz.prog 210 [.lst false 2 (zs.map (zoneC false)), Int' k] (.tup [.own 0 0 4, Int' 0]) [⟨91, 2, zs.map (zoneC true)⟩] := by
 obtain ⟨h1, n, z, rfl, hn, hz⟩ := ready_parts h;obtain ⟨hl, hc, -⟩ := checkZones_parts h1;have hl' : (zs.length : Int) = 4 := by omega
 have hcp := yard_Copy zs (by omega) (fun z hz => by have := checkZone_len (hc z hz); omega);rw [hl] at hcp;replace hcp := hid hcp;have hn1 : decide ((4 : Int) <= (n : Int)) = false := by simp; omega
 have hn2 : decide ((n : Int) < 0) = false := by simp
 replace hl := hid hl;refine C_inline [64] Tryz.func210 (fun _ _ => by kernel_rfl) rfl (by kernel_rfl) (by rfl) (by decide) (by rfl) (by rfl) (by first | rfl | exact plain_I _ | exact plain_map (fun _ => rfl) _) ?_;refine rC (yard_Check zs) ?_;refine rD (aN h1 (aN hl' (aN hn1 hn2))) hcp.out ?_;refine rN ?_;exact ⟨⟨_, rfl, Sub.refl _⟩, rfl⟩
theorem set_map {α β : Type} {f : α -> β} {xs : List α} {n : Nat} {y : α} {b : β} (h : b = f y) : (xs.map f).set n b = (xs.set n y).map f := by subst h; simp
@[simp] theorem set_zone (fr : Bool) (zs : List S.Zone) (n : Nat) (a : Int) (d : List Int) : (zs.map (zoneC fr)).set n [.at (.int .i64 a), .lst fr 1 (I d)] = (zs.set n ⟨a, d⟩).map (zoneC fr) := (set_map rfl)
theorem own_zones {h : Heap} {i n : Nat} {e : HE} {xs : List S.Zone} (hi : h i = some e) (he : e.s = 2 /\ e.rows = xs.map (zoneC true)) (hn : n = xs.length) : outLeaf h [] (.own i 0 n) = some (.lst true 2 (xs.map (zoneC false))) := by
 have hi' : h i = some ⟨e.ty, 2, xs.map (zoneC true)⟩ := by rw [hi, <- he.1, <- he.2]
 exact own_outR hi' (by simpa using hn) (mapM_map (f := zoneC true) (g := fun (r : List AV) => r.mapM (leafP h [] 2)) (e := zoneC false) (fun _ => rfl) xs) (by simp [freshCell])
theorem OutL.zones {h : Heap} {i n : Nat} {e : HE} {fr : Bool} {xs : List S.Zone} {cs ts : List AV} (hi : h i = some e) (he : e.s = 2 /\ e.rows = xs.map (zoneC true)) (hn : n = xs.length) (g : OutL h cs ts) : OutL h (.own i 0 n :: cs) (.lst fr 2 (xs.map (zoneC false)) :: ts) :=
 .cons (own_zones hi he hn) (.lst (fun _ => rfl) (SubR.refl _)) g
theorem SubR.set {a b : List (List AV)} (h : SubR a b) {n : Nat} {x y : List AV} (g : SubL SubC x y) : SubR (a.set n x) (b.set n y) := by
 refine ⟨by simp [h.1], fun k r r' h1 h2 => ?_⟩;rw [List.getElem?_set] at h1 h2;split at h1
 ·rename_i e; subst e
  split at h1
  ·rw [if_pos rfl, if_pos (by rw [<- h.1]; assumption)] at h2;cases h1; cases h2; exact g
  ·cases h1
 ·rename_i e;rw [if_neg e] at h2;exact h.2 k r r' h1 h2
theorem OutL.zones0 {h : Heap} {i n k : Nat} {e : HE} {fr : Bool} {xs : List S.Zone} {cs ts : List AV} (hi : h i = some e) (he : e.s = 2 /\ e.rows = (xs.map (zoneC true)).set k [Int' 0, .nl]) (hn : n = xs.length) (g : OutL h cs ts) :
  OutL h (.own i 0 n :: cs) (.lst fr 2 ((xs.set k S.Zone.zero).map (zoneC false)) :: ts) := by
 have hi' : h i = some ⟨e.ty, 2, (xs.map (zoneC true)).set k [Int' 0, .nl]⟩ := by rw [hi, <- he.1, <- he.2]
 have hmem : ∀ r, r ∈ (xs.map (zoneC true)).set k [Int' 0, .nl] -> r = [Int' 0, .nl] \/ ∃ z, r = zoneC true z := by
  intro r hr;rcases List.mem_or_eq_of_mem_set hr with hr | hr
  ·obtain ⟨z, _, rfl⟩ := List.mem_map.1 hr;exact Or.inr ⟨z, rfl⟩
  ·exact Or.inl hr
 have hm := plain_rows (h := h) (rows := (xs.map (zoneC true)).set k [Int' 0, .nl]) (fun r hr => by
  rcases hmem r hr with rfl | ⟨z, rfl⟩ <;> rfl)
 have hout := own_outR hi' (n := n) (by simp [hn]) hm (by
  rw [List.all_eq_true];intro r hr
  rcases hmem r hr with rfl | ⟨z, rfl⟩ <;> rfl)
 refine .cons hout (.lst (fun _ => rfl) ?_) g
 have e1 : ((xs.map (zoneC true)).set k [Int' 0, .nl]).map (fun r => r.map unfr) = (xs.map (zoneC false)).set k [Int' 0, .nl] := by
  rw [List.map_set, List.map_map];rfl
 rw [e1, List.map_set];exact SubR.set (SubR.refl _) (.cons (.refl _) (.cons .nl (.nil _)))
theorem get_set_self {α : Type} {xs : List α} {n : Nat} {z y : α} (h : xs[n]? = some z) : (xs.set n y)[n]? = some y := by
 have := (List.getElem?_eq_some_iff.1 h).1;simp [this]
theorem getD_of {α : Type} {xs : List α} {n : Nat} {z d : α} (h : xs[n]? = some z) : xs.getD n d = z := by simp [List.getD, h]
theorem yard_Finish (zs : List S.Zone) (k : Int) : C Tryz.prog 188 [.lst false 2 (zs.map (zoneC false)), Int' k] (.tup [.lst true 2 ((S.finishZ zs k).1.map (zoneC false)), Int' (S.finishZ zs k).2]) [] := by
 by_cases h : S.readyZ zs k = 0
 ·have hc := hid (yard_ready_ok zs k h);obtain ⟨h1, n, z, rfl, hn, hz⟩ := ready_parts h;have hl := (checkZones_parts h1).1
  have hr : S.finishZ zs n = (zs.set n ⟨4, z.d⟩, 0) := by
   unfold S.finishZ;rw [if_neg (by simp [h])];simp [hz]
  rw [hr];replace hl := hid hl;refine CI Tryz.func188 ?_;refine rC hc.out ?_;refine rS (aN hn (aN hl.out hz)) ?_;exact ends_le (OutL.zones rfl ⟨rfl, rfl⟩ (by simp [hl.out]) (OutL.nil _)) rfl
 ·refine CI Tryz.func188 ?_;refine rC (yard_ready_bad zs k h) ?_;refine rS h ?_;have hr : S.finishZ zs k = ([], S.readyZ zs k) := by unfold S.finishZ; rw [if_pos h]
  rw [hr];exact ends_le outL rfl
theorem yard_Reset (zs : List S.Zone) (k : Int) : C Tryz.prog 189 [.lst false 2 (zs.map (zoneC false)), Int' k] (.tup [.lst true 2 ((S.resetZ zs k).1.map (zoneC false)), Int' (S.resetZ zs k).2]) [] := by
 by_cases h : S.readyZ zs k = 0
 ·have hc := hid (yard_ready_ok zs k h);obtain ⟨h1, n, z, rfl, hn, hz⟩ := ready_parts h;have hl := (checkZones_parts h1).1
  have hr : S.resetZ zs n = (zs.set n S.Zone.zero, 0) := by
   unfold S.resetZ;rw [if_neg (by simp [h])];simp
  rw [hr];replace hl := hid hl;refine CI Tryz.func189 ?_;refine rC hc.out ?_;refine rS (aN hn (aN hl.out hz)) ?_;exact ends_le (OutL.zones0 rfl ⟨rfl, rfl⟩ (by simp [hl.out]) (OutL.nil _)) rfl
 ·refine CI Tryz.func189 ?_;refine rC (yard_ready_bad zs k h) ?_;refine rS h ?_;have hr : S.resetZ zs k = ([], S.readyZ zs k) := by unfold S.resetZ; rw [if_pos h]
  rw [hr];exact ends_le outL rfl
theorem yard_Close (zs : List S.Zone) (k : Int) : C Tryz.prog 187 [.lst false 2 (zs.map (zoneC false)), Int' k] (.tup [.lst true 2 ((S.closeZ zs k).1.map (zoneC false)), Int' (S.closeZ zs k).2]) [] := by
 by_cases h : S.readyZ zs k = 0
 ·have hc := hid (yard_ready_ok zs k h);obtain ⟨h1, n, z, rfl, hn, hz⟩ := ready_parts h;have hl := (checkZones_parts h1).1
  have hr : S.closeZ zs n = if S.isOpen z = false then ([], 6) else (zs.set n (S.shutZ z), 0) := by
   unfold S.closeZ;rw [if_neg (by simp [h])];simp [hz]
  obtain ⟨r, hr0⟩ : ∃ r, S.closeZ zs n = r := ⟨_, rfl⟩;rw [hr0] at hr ⊢;clear hr0;replace hl := hid hl;replace hr := hid hr;refine CI Tryz.func187 ?_;refine rC hc.out ?_;refine rS (aN hn (aN hl.out hz)) ?_;refine brA_split (fun h2 => ?_) (fun h2 => ?_)
  ·have : S.isOpen z = false := by simp at h2; simp [S.isOpen, h2]
   obtain rfl : r = ([], 6) := by rw [hr.out, if_pos this]
   refine rN ?_;exact ends_le outL rfl
  ·have : ¬ S.isOpen z = false := by simp at h2; simp [S.isOpen]; grind
   obtain rfl : r = (zs.set n (S.shutZ z), 0) := by rw [hr.out, if_neg this]
   clear hr this;have hg := fun y => get_set_self (y := y) hz
   refine rS (aN hn (aN hl.out hz)) ?_;refine CSI Tryz.func212 ?_;refine rS (aN hn (aN hl.out (aN hz hg))) ?_;refine brA_split (fun g => ?_) (fun g => ?_)
   ·have e : S.shutZ z = ⟨0, z.d⟩ := by simp at g; simp [S.shutZ, g]
    rw [e];refine rS (aN hn (aN hl.out (aN hz hg))) ?_;exact ends_le (OutL.zones rfl ⟨rfl, rfl⟩ (by simp [hl.out]) (OutL.nil _)) rfl
   ·have e : S.shutZ z = ⟨3, z.d⟩ := by simp at g; simp [S.shutZ, g]
    rw [e];refine rS (aN hn (aN hl.out (aN hz hg))) ?_;exact ends_le (OutL.zones rfl ⟨rfl, rfl⟩ (by simp [hl.out]) (OutL.nil _)) rfl
 ·refine CI Tryz.func187 ?_;refine rC (yard_ready_bad zs k h) ?_;refine rS h ?_;have hr : S.closeZ zs k = ([], S.readyZ zs k) := by unfold S.closeZ; rw [if_pos h]
  rw [hr];exact ends_le outL rfl
theorem indexFunc_zones (p : S.Zone -> Bool) (f : FuncId) (xs : List S.Zone) (hlen : xs.length <= maxLen) (hf : ∀ x, C Tryz.prog f [.agg (zoneC false x)] (Bool' (p x)) []) : C Tryz.prog 227 [.lst false 2 (xs.map (zoneC false)), .fn f []] (Int' (S.idx p xs)) [] := by
 unfold maxLen at hlen;refine CI Tryz.func227 ?_;refine rN ?_;refine loop_count 8 xs.length (fun k _ m _ => Hid (∀ (j : Nat) (y : S.Zone), j < k -> xs[j]? = some y -> p y = false)) _ rfl (by rfl) (by intro j y hj; omega) ?_ ?_
 ·rintro k t h m hk hci hs hb;have hw : IntKind.i64.wrap ((k : Int) + 1) = (k : Int) + 1 := wrap_ok (by omega);obtain ⟨x, hx⟩ : ∃ x, xs[k]? = some x := ⟨xs[k], by simp⟩;have hk' : decide (k < xs.length) = true := by simp [hk]
  have e0 := hs 0 rfl;have e1 := hs 1 rfl;have e7 := hs 7 rfl;clear hs;simp -dsimp -implicitDefEqProofs at e0 e1 e7;replace hk := hid hk;have hc := hid (hf x);clear hf;refine rD (aN e0 (aN e1 (aN e7 (aN hci (aN hk' hx))))) hc.out ?_;refine rN ?_;cases hp : p x
  ·refine rS (aN hw (aN hci (aN e0 (aN e1 e7)))) ?_;exact upto_succ hb.out hx hp
  ·refine rN ?_;exact ends_int (idx_at hb.out hx hp).symm
 ·rintro t h m hci hs hb;have e0 := hs 0 rfl;have e1 := hs 1 rfl;have e7 := hs 7 rfl;clear hs;simp -dsimp -implicitDefEqProofs at e0 e1 e7;refine rS (aN e0 (aN e1 (aN e7 hci))) ?_;exact ends_int (idx_none hb.out).symm
theorem room_one (z : S.Zone) : C Tryz.prog 228 [.agg (zoneC false z)] (Bool' (decide (z.st = 1))) [] := by
 refine CI Tryz.func228 ?_;refine rN ?_;exact ends_bool rfl
theorem call_CSm {P : Program} {id : Nat} {f : FuncId} {args : List AV} {t : Nat -> AV} {h : Heap} {n : Nat} {d : Option Tmp} {K : St -> Prop} {i j} {Q : Heap -> Nat -> AV -> Prop} (hC : CS P f args h n Q) (hk : ∀ h' n' r, Q h' n' r -> K (St.put ⟨t, h', n'⟩ d r)) : callA P false id f args t h n d K i j :=
 Or.inr ⟨rfl, hC.1, fun B W0 ρ ok w vs H hv => (hC.2 B W0 ρ ok w vs H hv).mono (by
  rintro e w' ⟨v, h', n', r, ρ', ok', a1, a2, a3⟩
  exact ⟨v, h', n', r, ρ', ok', a1, hk _ _ _ a2, a3⟩)⟩
theorem mapM2 {α β : Type} {f : α -> Option β} {a b : α} {a' b' : β} (h : f a = some a') (g : f b = some b') : [a, b].mapM f = some [a', b'] := by
 rw [List.mapM_cons, h, List.mapM_cons, g]; rfl
theorem view_zones {h : Heap} {i n : Nat} {ty : TypeId} {fr : Bool} {zs : List S.Zone} (hi : h i = some ⟨ty, 2, zs.map (zoneC fr)⟩) (hn : n = zs.length) : viewV h (.own i 0 n) = some (.lst false 2 (zs.map (zoneC false))) := by
 subst hn;show (match h i with | some e => if 0 + zs.length <= e.rows.length then (((e.rows.drop 0).take zs.length).mapM fun (r : List AV) => r.mapM (leafP h [] 2)).map (AV.lst false e.s ·) else none | none => none) = _;rw [hi];simp only [List.drop_zero];rw [if_pos (by simp), take_map_len, mapM_map (f := zoneC fr) (g := fun (r : List AV) => r.mapM (leafP h [] 2)) (e := zoneC false) (fun _ => by rfl) zs];rfl
def RoomQ (zs : List S.Zone) (n : Nat) (h : Heap) (i m : Nat) (h' : Heap) (m' : Nat) (r : AV) : Prop :=
 r = Int' (S.room zs n).2 /\ h' i = some ⟨91, 2, (S.room zs n).1.map (zoneC true)⟩ /\ (∀ j, j ≠ i -> j < m -> h' j = h j) /\ m <= m'
theorem room_CS (zs : List S.Zone) (n : Nat) (z : S.Zone) (hz : zs[n]? = some z) (hl : zs.length = 4) (h : Heap) (i m : Nat) (hi : h i = some ⟨91, 2, zs.map (zoneC true)⟩) (him : i < m) :
  CS Tryz.prog 211 [.own i 0 4, Int' n] h m (RoomQ zs n h i m) := by
 have hn : n < 4 := by rw [<- hl]; exact (List.getElem?_eq_some_iff.1 hz).1
 have hrm : S.room zs n = if S.isOpen z = true then (zs, 0) else if z.st = 4 then (zs, 7) else if z.st = 0 /\ zs.countP S.isActive = 3 then (zs, 7) else if zs.countP S.isOpen < 2 then (zs, 0)
   else if S.idx (fun z => decide (z.st = 1)) zs < 0 then (zs, 7) else (zs.set (S.idx (fun z => decide (z.st = 1)) zs).toNat (S.shutZ (zs.getD (S.idx (fun z => decide (z.st = 1)) zs).toNat S.Zone.zero)), 0) := by
  unfold S.room;simp only [List.getD, hz, Option.getD_some]
 have hne : ∀ c, ¬ i = m + c := fun c => by omega
 have hne2 : ∀ c, ¬ m + c = i := fun c => by omega
 have hoth : ∀ j c, j < m -> ¬ j = m + c := fun j c hj => by omega
 unfold RoomQ;obtain ⟨r, hr⟩ : ∃ r, S.room zs n = r := ⟨_, rfl⟩;rw [hr] at hrm ⊢;clear hr;replace hrm := hid hrm;replace hoth := hid hoth;refine CS_inline (typesOk _) Tryz.func211 (fun _ _ => by kernel_rfl) rfl (by kernel_rfl) (Nat.le_of_ble_eq_true rfl) ?_;refine rS (aN hi (aN hn (aN hl (aN hz (aN hne Nat.add_assoc))))) ?_;refine brA_split (fun h1 => ?_) (fun h1 => ?_)
 ·obtain rfl : r = (zs, 0) := by rw [hrm.out, if_pos (by simpa [S.isOpen] using h1)]
  refine rS (aN hi (aN hne Nat.add_assoc)) ?_;intro j hj1 hj2; simp [hoth.out j _ hj2, hj1]
 have q1 : ¬ S.isOpen z = true := by rw [Bool.not_eq_true]; simpa [S.isOpen] using h1
 have r1 := hrm.out;rw [if_neg q1] at r1;replace r1 := hid r1;clear hrm;refine rS (aN hi (aN hn (aN hl (aN hz (aN hne Nat.add_assoc))))) ?_;refine brA_split (fun h2 => ?_) (fun h2 => ?_)
 ·obtain rfl : r = (zs, 7) := by rw [r1.out, if_pos (by simpa using h2)]
  refine rS (aN hi (aN hne Nat.add_assoc)) ?_;intro j hj1 hj2; simp [hoth.out j _ hj2, hj1]
 have r2 := r1.out;rw [if_neg (by simpa using h2)] at r2;replace r2 := hid r2;clear r1;have vz : ∀ (g : Heap), g i = some ⟨91, 2, zs.map (zoneC true)⟩ -> viewV g (.own i 0 4) = some (.lst false 2 (zs.map (zoneC false))) := fun g hg => view_zones hg hl.symm
 replace vz := hid vz;have rest : ∀ (t : Nat -> AV) (h2 : Heap) (m2 : Nat), t 0 = .own i 0 4 -> h2 i = some ⟨91, 2, zs.map (zoneC true)⟩ -> True := fun _ _ _ _ _ => trivial
 clear rest;by_cases h3 : z.st = 0
 ·refine rS (aN hi (aN hn (aN hl (aN hz (aN hne (aN Nat.add_assoc h3)))))) ?_;refine call_C (count_active zs) (mapM2 (vz.out _ (by simp [hne, hi])) (by simp -dsimp -implicitDefEqProofs)) (Or.inl ⟨rfl, rfl⟩) (Nat.le_of_ble_eq_true rfl) ?_;refine rS (aN hi (aN hn (aN hl (aN hz (aN hne (aN Nat.add_assoc h3)))))) ?_;refine brA_split (fun h4 => ?_) (fun h4 => ?_)
  ·obtain rfl : r = (zs, 7) := by rw [r2.out, if_pos ⟨h3, by simp at h4; omega⟩]
   refine rS (aN hi (aN hne Nat.add_assoc)) ?_;intro j hj1 hj2; simp [hoth.out j _ hj2, hj1]
  have r3 := r2.out;rw [if_neg (by simp at h4; omega)] at r3;replace r3 := hid r3;clear r2;refine rS (aN hi (aN hn (aN hl (aN hz (aN hne Nat.add_assoc))))) ?_;refine call_C (count_open zs) (mapM2 (vz.out _ (by simp [hne, hi])) (by simp -dsimp -implicitDefEqProofs)) (Or.inl ⟨rfl, rfl⟩) (Nat.le_of_ble_eq_true rfl) ?_;refine rS (aN hi (aN hn (aN hl (aN hz (aN hne Nat.add_assoc))))) ?_;refine brA_split (fun h5 => ?_) (fun h5 => ?_)
  ·obtain rfl : r = (zs, 0) := by rw [r3.out, if_pos (by simp at h5; omega)]
   refine rS (aN hi (aN hne Nat.add_assoc)) ?_;intro j hj1 hj2; simp [hoth.out j _ hj2, hj1]
  have r4 := r3.out;rw [if_neg (by simp at h5; omega)] at r4;replace r4 := hid r4;clear r3;refine rS (aN hi (aN hn (aN hl (aN hz (aN hne Nat.add_assoc))))) ?_;refine call_C (indexFunc_zones _ _ zs (by rw [hl]; decide) room_one) (mapM2 (vz.out _ (by simp [hne, hi])) rfl) (Or.inl ⟨rfl, rfl⟩) (Nat.le_of_ble_eq_true rfl) ?_;rcases idx_spec (p := fun z : S.Zone => decide (z.st = 1)) zs with e | ⟨k, x, e, hx, hpx⟩
  ·rw [e];obtain rfl : r = (zs, 7) := by rw [r4.out, if_pos (by rw [e]; decide)]
   refine rS (aN hi (aN hne Nat.add_assoc)) ?_;intro j hj1 hj2; simp [hoth.out j _ hj2, hj1]
  ·rw [e];have hk4 : k < 4 := by rw [<- hl]; exact (List.getElem?_eq_some_iff.1 hx).1
   have hk0 : decide ((k : Int) < 0) = false := by simp
   obtain rfl : r = (zs.set k (S.shutZ x), 0) := by rw [r4.out, if_neg (by rw [e]; omega), e]; simp [hx]
   have hg := fun y => get_set_self (y := y) hx
   refine rS (aN hi (aN hn (aN hl (aN hne (aN Nat.add_assoc (aN hk0 (aN hk4 hx))))))) ?_;refine CSI Tryz.func212 ?_;refine rS (aN hi (aN hn (aN hl (aN hne (aN Nat.add_assoc (aN hk0 (aN hk4 (aN hx hg)))))))) ?_;refine brA_split (fun g => ?_) (fun g => ?_)
   ·have e : S.shutZ x = ⟨0, x.d⟩ := by simp at g; simp [S.shutZ, g]
    rw [e];refine rS (aN hi (aN hn (aN hl (aN hne (aN Nat.add_assoc (aN hk0 (aN hk4 (aN hx hg)))))))) ?_;intro j hj1 hj2; simp [hoth.out j _ hj2, hj1]
   ·have e : S.shutZ x = ⟨3, x.d⟩ := by simp at g; simp [S.shutZ, g]
    rw [e];refine rS (aN hi (aN hn (aN hl (aN hne (aN Nat.add_assoc (aN hk0 (aN hk4 (aN hx hg)))))))) ?_;intro j hj1 hj2; simp [hoth.out j _ hj2, hj1]
 ·have r3 := r2.out;rw [if_neg (by simp [h3])] at r3;replace r3 := hid r3;clear r2;refine rS (aN hi (aN hn (aN hl (aN hz (aN hne (aN Nat.add_assoc h3)))))) ?_;refine call_C (count_open zs) (mapM2 (vz.out _ (by simp [hne, hi])) (by simp -dsimp -implicitDefEqProofs)) (Or.inl ⟨rfl, rfl⟩) (Nat.le_of_ble_eq_true rfl) ?_;refine rS (aN hi (aN hn (aN hl (aN hz (aN hne Nat.add_assoc))))) ?_;refine brA_split (fun h5 => ?_) (fun h5 => ?_)
  ·obtain rfl : r = (zs, 0) := by rw [r3.out, if_pos (by simp at h5; omega)]
   refine rS (aN hi (aN hne Nat.add_assoc)) ?_;intro j hj1 hj2; simp [hoth.out j _ hj2, hj1]
  have r4 := r3.out;rw [if_neg (by simp at h5; omega)] at r4;replace r4 := hid r4;clear r3;refine rS (aN hi (aN hn (aN hl (aN hz (aN hne Nat.add_assoc))))) ?_;refine call_C (indexFunc_zones _ _ zs (by rw [hl]; decide) room_one) (mapM2 (vz.out _ (by simp [hne, hi])) rfl) (Or.inl ⟨rfl, rfl⟩) (Nat.le_of_ble_eq_true rfl) ?_;rcases idx_spec (p := fun z : S.Zone => decide (z.st = 1)) zs with e | ⟨k, x, e, hx, hpx⟩
  ·rw [e];obtain rfl : r = (zs, 7) := by rw [r4.out, if_pos (by rw [e]; decide)]
   refine rS (aN hi (aN hne Nat.add_assoc)) ?_;intro j hj1 hj2; simp [hoth.out j _ hj2, hj1]
  ·rw [e];have hk4 : k < 4 := by rw [<- hl]; exact (List.getElem?_eq_some_iff.1 hx).1
   have hk0 : decide ((k : Int) < 0) = false := by simp
   obtain rfl : r = (zs.set k (S.shutZ x), 0) := by rw [r4.out, if_neg (by rw [e]; omega), e]; simp [hx]
   have hg := fun y => get_set_self (y := y) hx
   refine rS (aN hi (aN hn (aN hl (aN hne (aN Nat.add_assoc (aN hk0 (aN hk4 hx))))))) ?_;refine CSI Tryz.func212 ?_;refine rS (aN hi (aN hn (aN hl (aN hne (aN Nat.add_assoc (aN hk0 (aN hk4 (aN hx hg)))))))) ?_;refine brA_split (fun g => ?_) (fun g => ?_)
   ·have e : S.shutZ x = ⟨0, x.d⟩ := by simp at g; simp [S.shutZ, g]
    rw [e];refine rS (aN hi (aN hn (aN hl (aN hne (aN Nat.add_assoc (aN hk0 (aN hk4 (aN hx hg)))))))) ?_;intro j hj1 hj2; simp [hoth.out j _ hj2, hj1]
   ·have e : S.shutZ x = ⟨3, x.d⟩ := by simp at g; simp [S.shutZ, g]
    rw [e];refine rS (aN hi (aN hn (aN hl (aN hne (aN Nat.add_assoc (aN hk0 (aN hk4 (aN hx hg)))))))) ?_;intro j hj1 hj2; simp [hoth.out j _ hj2, hj1]
theorem room_cases {zs : List S.Zone} {n : Nat} {z : S.Zone} (hz : zs[n]? = some z) : S.room zs n = (zs, 7) \/ S.room zs n = (zs, 0) \/
  ∃ (k : Nat) (x : S.Zone), k ≠ n /\ zs[k]? = some x /\ x.st = 1 /\ S.isOpen z = false /\ z.st ≠ 4 /\ 2 <= zs.countP S.isOpen /\ S.room zs n = (zs.set k (S.shutZ x), 0) := by
 unfold S.room;simp only [List.getD, hz, Option.getD_some];by_cases h1 : S.isOpen z = true
 ·rw [if_pos h1]; exact Or.inr (Or.inl rfl)
 rw [if_neg h1];by_cases h2 : z.st = 4
 ·rw [if_pos h2]; exact Or.inl rfl
 rw [if_neg h2];by_cases h3 : z.st = 0 /\ zs.countP S.isActive = 3
 ·rw [if_pos h3]; exact Or.inl rfl
 rw [if_neg h3];by_cases h4 : zs.countP S.isOpen < 2
 ·rw [if_pos h4]; exact Or.inr (Or.inl rfl)
 rw [if_neg h4];rcases idx_spec (p := fun z : S.Zone => decide (z.st = 1)) zs with e | ⟨k, x, e, hx, hpx⟩
 ·rw [e, if_pos (by decide)]; exact Or.inl rfl
 ·rw [e, if_neg (by omega)];refine Or.inr (Or.inr ⟨k, x, ?_, hx, by simpa using hpx, by simpa using h1, h2, by omega, by simp [hx]⟩);rintro rfl;rw [hz] at hx;cases hx;apply h1;simp [S.isOpen];left; simpa using hpx
theorem room_get {zs : List S.Zone} {n : Nat} {z : S.Zone} (hz : zs[n]? = some z) : (S.room zs n).1[n]? = some z /\ (S.room zs n).1.length = zs.length := by
 rcases room_cases hz with e | e | ⟨k, x, hk, -, -, -, -, -, e⟩
 ·rw [e]; exact ⟨hz, rfl⟩
 ·rw [e]; exact ⟨hz, rfl⟩
 ·rw [e];refine ⟨?_, by simp⟩;rw [List.getElem?_set_ne hk];exact hz
theorem yard_Hold (zs : List S.Zone) (k : Int) : C Tryz.prog 186 [.lst false 2 (zs.map (zoneC false)), Int' k] (.tup [.lst true 2 ((S.holdZ zs k).1.map (zoneC false)), Int' (S.holdZ zs k).2]) [] := by
 by_cases h : S.readyZ zs k = 0
 ·have hc := hid (yard_ready_ok zs k h);obtain ⟨h1, n, z, rfl, hn, hz⟩ := ready_parts h;have hl := (checkZones_parts h1).1
  have hr : S.holdZ zs n = if (S.room zs n).2 ≠ 0 then ([], (S.room zs n).2) else ((S.room zs n).1.set n ⟨2, z.d⟩, 0) := by
   unfold S.holdZ;rw [if_neg (by simp [h])];have := (room_get hz).1;simp [this]
  obtain ⟨r, hr0⟩ : ∃ r, S.holdZ zs n = r := ⟨_, rfl⟩;rw [hr0] at hr ⊢;clear hr0;obtain ⟨g1, g2⟩ := room_get hz;have hroom := room_CS zs n z hz hl;rw [hl] at g2;unfold RoomQ at hroom;generalize S.room zs n = rr at *;obtain ⟨l', e⟩ := rr;simp only at g1 g2 hr hroom;replace hr := hid hr;replace hroom := hid hroom;refine CI Tryz.func186 ?_;refine rC hc.out ?_;refine rS (aN hn hz) ?_;refine call_CSm (hroom.out _ 16 _ (by simp) (by decide)) ?_;rintro h' n' r' ⟨rfl, hi', -, hn'⟩;refine rN ?_;by_cases he : e = 0
  ·subst he;obtain rfl : r = (l'.set n ⟨2, z.d⟩, 0) := by rw [hr.out, if_neg (by simp)]
   clear hr hroom;refine rS (aN hi' (aN hn (aN g1 g2))) ?_;exact ends_le (OutL.zones rfl ⟨rfl, rfl⟩ (by simp [g2]) (OutL.nil _)) rfl
  ·obtain rfl : r = ([], e) := by rw [hr.out, if_pos (by simpa using he)]
   clear hr hroom;refine rS he ?_;exact ends_le (OutL.nl (OutL.nil _)) rfl
 ·refine CI Tryz.func186 ?_;refine rC (yard_ready_bad zs k h) ?_;refine rS h ?_;have hr : S.holdZ zs k = ([], S.readyZ zs k) := by unfold S.holdZ; rw [if_pos h]
  rw [hr];exact ends_le (OutL.nl (OutL.nil _)) rfl
theorem outAgg_leaf {h : Heap} {c c' : AV} (hc : outLeaf h [] c = some c') : outAgg h [] c = some c' := by
 rw [<- hc];cases c <;> first | rfl | (simp [outLeaf] at hc)
theorem ends_l3 {h : Heap} {n : Nat} {c target : AV} {a a' e e' : Int} (ho : OutL h [c] [target]) (ha : a = a') (he : e = e') : Ends [] (.tup [target, Int' a', Int' e']) [] h n (.tup [c, Int' a, Int' e]) := by
 subst ha he;obtain ⟨cells', ho, hs⟩ := ho;cases hc : outLeaf h [] c with
 | none => rw [List.mapM_cons, hc] at ho; cases ho
 | some c' =>
  rw [List.mapM_cons, hc] at ho;simp at ho;subst ho;refine ⟨⟨.tup [c', Int' a, Int' e], ?_, .tup (.cons (.leaf (hs.2 0 _ _ rfl rfl)) (.cons (.leaf (.refl _)) (.cons (.leaf (.refl _)) (.nil _))))⟩, rfl⟩;show (List.mapM (outAgg h []) [c, Int' a, Int' e]).map AV.tup = _;rw [List.mapM_cons, outAgg_leaf hc];rfl
theorem yard_Write (zs : List S.Zone) (k : Int) (data : List Int) : C Tryz.prog 190 [.lst false 2 (zs.map (zoneC false)), Int' k, .lst false 1 (I data)] (.tup [.lst true 2 ((S.writeZ zs k data).1.map (zoneC false)), Int' (S.writeZ zs k data).2.1, Int' (S.writeZ zs k data).2.2]) [] := by
 by_cases h : S.readyZ zs k = 0
 ·have hc := hid (yard_ready_ok zs k h);obtain ⟨h1, n, z, rfl, hn, hz⟩ := ready_parts h;have hl := (checkZones_parts h1).1
  have hr : S.writeZ zs n data = if (S.writeZone z data).2 ≠ 0 then ([], 0, (S.writeZone z data).2) else if (S.room zs n).2 ≠ 0 then ([], 0, (S.room zs n).2) else ((S.room zs n).1.set n (S.writeZone z data).1, (z.d.length : Int), (0 : Int)) := by
   unfold S.writeZ;rw [if_neg (by simp [h])];simp [hz]
  obtain ⟨r, hr0⟩ : ∃ r, S.writeZ zs n data = r := ⟨_, rfl⟩;rw [hr0] at hr ⊢;clear hr0;obtain ⟨g1, g2⟩ := room_get hz;have hroom := room_CS zs n z hz hl;have hwr := zone_Write z data;rw [hl] at g2;unfold RoomQ at hroom;generalize S.room zs n = rr at *;obtain ⟨l', e⟩ := rr;generalize S.writeZone z data = ww at *;obtain ⟨⟨st', d'⟩, f⟩ := ww;simp only at g1 g2 hr hroom hwr;replace hr := hid hr;replace hroom := hid hroom;replace hwr := hid hwr;refine CI Tryz.func190 ?_;refine rC hc.out ?_;refine rD (aN hn (aN hz hl)) hwr.out ?_;refine rN ?_;by_cases hf : f = 0
  rotate_left
  ·obtain rfl : r = ([], 0, f) := by rw [hr.out, if_pos (by simpa using hf)]
   clear hr hroom;refine rS hf ?_;exact ends_l3 (OutL.nl (OutL.nil _)) rfl rfl
  subst hf;refine rN ?_;refine call_CSm (hroom.out _ 20 _ (by simp) (by decide)) ?_;rintro h' n' r' ⟨rfl, hi', hoth, hn'⟩;have h116 := hoth 116 (by decide) (by decide);clear hoth;simp -dsimp -implicitDefEqProofs [-getElem?_pos, -List.map_append, -List.map_set, List.getElem?_cons_zero, List.getElem?_cons_succ] at h116;refine rN ?_;by_cases he : e = 0
  ·subst he;obtain rfl : r = (l'.set n ⟨st', d'⟩, (z.d.length : Int), 0) := by rw [hr.out, if_neg (by simp), if_neg (by simp)]
   clear hr hroom;refine rS (aN hi' (aN hn (aN g1 (aN g2 h116)))) ?_;exact ends_l3 (OutL.zones rfl ⟨rfl, rfl⟩ (by simp [g2]) (OutL.nil _)) rfl rfl
  ·obtain rfl : r = ([], 0, e) := by rw [hr.out, if_neg (by simp), if_pos (by simpa using he)]
   clear hr hroom;refine rS he ?_;exact ends_l3 (OutL.nl (OutL.nil _)) rfl rfl
 ·refine CI Tryz.func190 ?_;refine rC (yard_ready_bad zs k h) ?_;refine rS h ?_;have hr : S.writeZ zs k data = ([], 0, S.readyZ zs k) := by unfold S.writeZ; rw [if_pos h]
  rw [hr];exact ends_l3 (OutL.nl (OutL.nil _)) rfl rfl
set_option linter.unusedVariables false
theorem countP_set {α : Type} {p : α -> Bool} : ∀ {xs : List α} {n : Nat} {x : α} (y : α), xs[n]? = some x -> (xs.set n y).countP p + (if p x = true then 1 else 0) = xs.countP p + (if p y = true then 1 else 0)
 | [], n, x, y, h => by simp at h
 | z :: xs, 0, x, y, h => by
  cases h;simp only [List.set_cons_zero, List.countP_cons];omega
 | z :: xs, n + 1, x, y, h => by
  have ih := countP_set (p := p) (xs := xs) (n := n) y (by simpa using h);simp only [List.set_cons_succ, List.countP_cons];omega
theorem checkZones_of {zs : List S.Zone} (h1 : zs.length = 4) (h2 : ∀ z, z ∈ zs -> S.checkZone z = 0) (h3 : zs.countP S.isOpen <= 2) (h4 : zs.countP S.isActive <= 3) : S.checkZones zs = 0 := by
 unfold S.checkZones;rw [if_neg (by omega), firstBad_none (fun j x _ hx => h2 x (List.mem_of_getElem? hx)), if_neg (by simp), if_neg (by omega)]
theorem mem_set {α : Type} {xs : List α} {n : Nat} {x y : α} (h : x ∈ xs.set n y) : x ∈ xs \/ x = y := List.mem_or_eq_of_mem_set h
theorem checkZones_set {zs : List S.Zone} {n : Nat} {z y : S.Zone} (h : S.checkZones zs = 0) (hz : zs[n]? = some z) (hy : S.checkZone y = 0) (ho : S.isOpen y = true -> S.isOpen z = true) (ha : S.isActive y = true -> S.isActive z = true) : S.checkZones (zs.set n y) = 0 := by
 obtain ⟨h1, h2, h3, h4⟩ := checkZones_parts h;have e1 := countP_set (p := S.isOpen) y hz;have e2 := countP_set (p := S.isActive) y hz;refine checkZones_of (by simpa using h1) (fun x hx => ?_) ?_ ?_
 ·rcases mem_set hx with g | g
  ·exact h2 x g
  ·rw [g]; exact hy
 ·by_cases g : S.isOpen y = true
  ·rw [if_pos g, if_pos (ho g)] at e1; omega
  ·rw [if_neg g] at e1; omega
 ·by_cases g : S.isActive y = true
  ·rw [if_pos g, if_pos (ha g)] at e2; omega
  ·rw [if_neg g] at e2; omega
theorem room_cases2 {zs : List S.Zone} {n : Nat} {z : S.Zone} (hz : zs[n]? = some z) (h0 : (S.room zs n).2 = 0) :
  (S.room zs n = (zs, 0) /\ (S.isOpen z = true \/ (S.isOpen z = false /\ z.st ≠ 4 /\ ¬ (z.st = 0 /\ zs.countP S.isActive = 3) /\ zs.countP S.isOpen < 2))) \/
  ∃ (k : Nat) (x : S.Zone), k ≠ n /\ zs[k]? = some x /\ x.st = 1 /\ S.isOpen z = false /\ z.st ≠ 4 /\ ¬ (z.st = 0 /\ zs.countP S.isActive = 3) /\ S.room zs n = (zs.set k (S.shutZ x), 0) := by
 unfold S.room at h0 ⊢;simp only [List.getD, hz, Option.getD_some] at h0 ⊢;by_cases h1 : S.isOpen z = true
 ·rw [if_pos h1]; exact Or.inl ⟨rfl, Or.inl h1⟩
 rw [if_neg h1] at h0 ⊢;by_cases h2 : z.st = 4
 ·rw [if_pos h2] at h0; cases h0
 rw [if_neg h2] at h0 ⊢;by_cases h3 : z.st = 0 /\ zs.countP S.isActive = 3
 ·rw [if_pos h3] at h0; cases h0
 rw [if_neg h3] at h0 ⊢;by_cases h4 : zs.countP S.isOpen < 2
 ·rw [if_pos h4]; exact Or.inl ⟨rfl, Or.inr ⟨by simpa using h1, h2, h3, h4⟩⟩
 rw [if_neg h4] at h0 ⊢;rcases idx_spec (p := fun z : S.Zone => decide (z.st = 1)) zs with e | ⟨k, x, e, hx, hpx⟩
 ·rw [e, if_pos (by decide)] at h0; cases h0
 ·rw [e, if_neg (by omega)];refine Or.inr ⟨k, x, ?_, hx, by simpa using hpx, by simpa using h1, h2, h3, by simp [hx]⟩;rintro rfl;rw [hz] at hx;cases hx;apply h1;simp [S.isOpen];left; simpa using hpx
theorem shut_ok {z : S.Zone} (h : S.checkZone z = 0) (ho : S.isOpen z = true) : S.checkZone (S.shutZ z) = 0 /\ S.isOpen (S.shutZ z) = false := by
 obtain ⟨st, d⟩ := z;have hl := checkZone_len h;unfold S.checkZone at h;simp [S.isOpen] at ho;split at h; · cases h
 split at h; · cases h
 split at h; · cases h
 rename_i h3;split at h; · cases h
 rename_i h4;simp only at h4 hl h3;constructor
 ·unfold S.checkZone S.shutZ;by_cases g : d.length = 0
  ·simp [g];have : d = [] := List.eq_nil_of_length_eq_zero g;subst this; simp
  ·simp only [g, if_false];rw [if_neg (by simp), if_neg (by simp; omega), if_neg h3, if_neg (by simp; omega)]
 ·unfold S.isOpen S.shutZ;by_cases g : d.length = 0 <;> simp [g]
theorem room_ok {zs : List S.Zone} {n : Nat} {z y : S.Zone} (h : S.checkZones zs = 0) (hz : zs[n]? = some z) (h0 : (S.room zs n).2 = 0) (hy : S.checkZone y = 0) (hya : S.isActive y = true -> S.isOpen y = true) : S.checkZones ((S.room zs n).1.set n y) = 0 := by
 obtain ⟨h1, h2, h3, h4⟩ := checkZones_parts h;have hoa : ∀ q : S.Zone, S.isOpen q = true -> S.isActive q = true := fun q hq => by simp [S.isOpen] at hq; simp [S.isActive]; omega
 have hzc := h2 z (List.mem_of_getElem? hz)
 have hst : 0 <= z.st /\ z.st <= 4 := by
  unfold S.checkZone at hzc;split at hzc
  ·cases hzc
  ·omega
 rcases room_cases2 hz h0 with ⟨e, c | ⟨c1, c2, c3, c4⟩⟩ | ⟨k, x, hk, hx, hx1, c1, c2, c3, e⟩
 ·rw [e];exact checkZones_set h hz hy (fun _ => c) (fun _ => hoa z c)
 ·rw [e];have e1 := countP_set (p := S.isOpen) y hz;have e2 := countP_set (p := S.isActive) y hz;refine checkZones_of (by simpa using h1) (fun x hx => ?_) ?_ ?_
  ·rcases mem_set hx with g | g
   ·exact h2 x g
   ·rw [g]; exact hy
  ·show (zs.set n y).countP S.isOpen <= 2;rw [if_neg (by simp [c1])] at e1;split at e1 <;> omega
  ·show (zs.set n y).countP S.isActive <= 3;by_cases g : S.isActive z = true
   ·rw [if_pos g] at e2; split at e2 <;> omega
   ·rw [if_neg g] at e2;have : z.st = 0 := by simp [S.isActive] at g; omega
    have : zs.countP S.isActive ≠ 3 := fun q => c3 ⟨this, q⟩
    split at e2 <;> omega
 ·rw [e];have hxo : S.isOpen x = true := by simp [S.isOpen, hx1]
  obtain ⟨s1, s2⟩ := shut_ok (h2 x (List.mem_of_getElem? hx)) hxo;have hz' : (zs.set k (S.shutZ x))[n]? = some z := by rw [List.getElem?_set_ne hk]; exact hz
  have e1 := countP_set (p := S.isOpen) y hz';have e2 := countP_set (p := S.isActive) y hz';have e3 := countP_set (p := S.isOpen) (S.shutZ x) hx;have e4 := countP_set (p := S.isActive) (S.shutZ x) hx;rw [if_pos hxo, if_neg (by simp [s2])] at e3;rw [if_pos (hoa x hxo)] at e4;refine checkZones_of (by simpa using h1) (fun q hq => ?_) ?_ ?_
  ·rcases mem_set hq with g | g
   ·rcases mem_set g with g | g
    ·exact h2 q g
    ·rw [g]; exact s1
   ·rw [g]; exact hy
  ·show ((zs.set k (S.shutZ x)).set n y).countP S.isOpen <= 2;rw [if_neg (by simp [c1])] at e1;split at e1 <;> omega
  ·show ((zs.set k (S.shutZ x)).set n y).countP S.isActive <= 3;by_cases g : S.isActive z = true
   ·rw [if_pos g] at e2; split at e2 <;> split at e4 <;> omega
   ·rw [if_neg g] at e2;have : z.st = 0 := by simp [S.isActive] at g; omega
    have : zs.countP S.isActive ≠ 3 := fun q => c3 ⟨this, q⟩
    split at e2 <;> split at e4 <;> omega
abbrev Z4 : List S.Zone := [S.Zone.zero, S.Zone.zero, S.Zone.zero, S.Zone.zero]
theorem yard_New : C Tryz.prog 127 [] (.lst true 2 (Z4.map (zoneC false))) [] := by
 refine CI Tryz.func127 ?_;refine rN ?_;exact ⟨⟨_, rfl, .one (.leaf (.lst (fun h => h) (SubR.cons (.cons (.refl _) (.cons .nl (.nil _))) (SubR.cons (.cons (.refl _) (.cons .nl (.nil _))) (SubR.cons (.cons (.refl _) (.cons .nl (.nil _))) (SubR.cons (.cons (.refl _) (.cons .nl (.nil _))) .nil))))))⟩, rfl⟩
theorem write_ok {z : S.Zone} {l : List Int} (h : (S.writeZone z l).2 = 0) : S.checkZone z = 0 /\ S.checkZone (S.writeZone z l).1 = 0 /\ (S.writeZone z l).1.d = z.d ++ l /\ 1 <= l.length /\ z.d.length + l.length <= 8 /\ z.st ≠ 4 /\
  (S.writeZone z l).1.st = (if z.d.length + l.length = 8 then 4 else if z.st = 2 then 2 else 1) := by
 unfold S.writeZone at h ⊢;by_cases h1 : S.checkZone z ≠ 0
 ·rw [if_pos h1] at h; exact absurd h h1
 rw [if_neg h1] at h ⊢;by_cases h2 : l.length = 0 \/ 8 < l.length
 ·rw [if_pos h2] at h; cases h
 rw [if_neg h2] at h ⊢;by_cases h3 : l.any S.bad = true
 ·rw [if_pos h3] at h; cases h
 rw [if_neg h3] at h ⊢;by_cases h4 : z.st = 4 \/ 8 < z.d.length + l.length
 ·rw [if_pos h4] at h; cases h
 rw [if_neg h4];have h1 : S.checkZone z = 0 := by simpa using h1
 refine ⟨h1, ?_, rfl, by omega, by omega, by omega, rfl⟩
 have hst : ¬ z.d.any S.bad = true := by
  unfold S.checkZone at h1;split at h1; · cases h1
  split at h1; · cases h1
  split at h1; · cases h1
  assumption
 unfold S.checkZone;simp only;by_cases c8 : z.d.length + l.length = 8
 ·rw [if_neg (by simp [c8]), if_neg (by simp; omega), if_neg (by simp only [List.any_append, Bool.or_eq_true]; exact fun g => g.elim hst h3), if_neg (by simp [c8])]
 ·rw [if_neg c8];split
  ·rw [if_neg (by simp), if_neg (by simp; omega), if_neg (by simp only [List.any_append, Bool.or_eq_true]; exact fun g => g.elim hst h3), if_neg (by simp; omega)]
  ·rw [if_neg (by simp), if_neg (by simp; omega), if_neg (by simp only [List.any_append, Bool.or_eq_true]; exact fun g => g.elim hst h3), if_neg (by simp; omega)]
theorem writeZ_ok {zs : List S.Zone} {n : Nat} {z : S.Zone} {l : List Int} (hz : zs[n]? = some z) (h : (S.writeZ zs n l).2.2 = 0) : S.readyZ zs n = 0 /\ (S.writeZone z l).2 = 0 /\ (S.room zs n).2 = 0 /\ S.writeZ zs n l = ((S.room zs n).1.set n (S.writeZone z l).1, (z.d.length : Int), 0) := by
 unfold S.writeZ at h ⊢;by_cases h1 : S.readyZ zs n ≠ 0
 ·rw [if_pos h1] at h; exact absurd h h1
 rw [if_neg h1] at h ⊢;simp only [Int.toNat_natCast, List.getD, hz, Option.getD_some] at h ⊢;by_cases h2 : (S.writeZone z l).2 ≠ 0
 ·rw [if_pos h2] at h; exact absurd h h2
 rw [if_neg h2] at h ⊢;by_cases h3 : (S.room zs n).2 ≠ 0
 ·rw [if_pos h3] at h; exact absurd h h3
 rw [if_neg h3];exact ⟨by simpa using h1, by simpa using h2, by simpa using h3, rfl⟩
theorem full_ok {z : S.Zone} (h : S.checkZone z = 0) : S.checkZone ⟨4, z.d⟩ = 0 := by
 unfold S.checkZone at h ⊢;split at h; · cases h
 split at h; · cases h
 split at h; · cases h
 rename_i h2 h3;rw [if_neg (by simp), if_neg h2, if_neg h3, if_neg (by simp)]
theorem ready_of {zs : List S.Zone} (h : S.checkZones zs = 0) {n : Nat} (hn : n < 4) : S.readyZ zs n = 0 := by
 unfold S.readyZ;rw [if_neg (by simp [h]), if_neg (by omega)]
end Go.Proofs.YtadmfokicjjglaaGreatDoor.E
