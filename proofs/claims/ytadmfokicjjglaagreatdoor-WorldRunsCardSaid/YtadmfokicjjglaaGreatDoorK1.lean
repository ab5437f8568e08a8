/- K1: Ka: halls: records checked, halls compared, checked, copied, new. Kb: halls copied; hall.Next. Kc: halls in plain data; hall.Replay; law.once. Kd: law.once, law.HallOthers, law.HallOnce. -/
import Derived.Test.YtadmfokicjjglaaGreatDoorD4
import Derived.Test.YtadmfokicjjglaaGreatDoorWa
import Derived.Test.YtadmfokicjjglaaGreatDoorX3
import Derived.Test.YtadmfokicjjglaaGreatDoorX4
namespace Go.Proofs.YtadmfokicjjglaaGreatDoor.E
open Go.RowKit Go.Proofs
set_option maxRecDepth 100000
set_option maxHeartbeats 1000000
set_option linter.unusedSimpArgs false
set_option linter.unusedVariables false
abbrev lastC (fr : Bool) (x : S.Last) : List AV := [.at (.int .i64 x.seq), .at (.int .i64 x.a.e), .at (.int .i64 x.a.pos), .lst fr 1 (I x.a.d)]
abbrev hallC (fr : Bool) (h : S.Hall) : List AV := [.lst fr 2 (h.d.zs.map (zoneC false)), .lst fr 1 (I h.d.b.k), .at (.int .i64 h.d.b.h), .at (.int .i64 h.d.b.t), .lst fr 4 (h.last.map (lastC false))]
theorem hall_New : C Tryz.prog 54 [] (.agg (hallC true S.Hall.new)) [] := by
 refine CI Tryz.func54 ?_;refine rC desk_New ?_;refine rN ?_;refine ends_agg (.lst (by simp) (.lst (by simp) (.at (.at (.cons (own_outR rfl rfl (rows' := [[Int' 0, Int' 0, Int' 0, .nl], [Int' 0, Int' 0, Int' 0, .nl], [Int' 0, Int' 0, Int' 0, .nl]]) rfl rfl) (.lst (fun h => h) ?_) (.nil _))))));exact .cons (.cons (.refl _) (.cons (.refl _) (.cons (.refl _) (.cons .nl (.nil _))))) (.cons (.cons (.refl _) (.cons (.refl _) (.cons (.refl _) (.cons .nl (.nil _))))) (.cons (.cons (.refl _) (.cons (.refl _) (.cons (.refl _) (.cons .nl (.nil _))))) .nil))
theorem len4 {α : Type} {l : List α} (h : l.length = 4) : ∃ a b c d, l = [a, b, c, d] := by
 match l, h with
 | [a, b, c, d], _ => exact ⟨a, b, c, d, rfl⟩
theorem equalFunc_lasts {α : Type} {enc : α -> List AV} {eq : α -> α -> Bool} {f : FuncId} (he : ∀ x, (enc x).length = 4) (xs ys : List α) (hf : ∀ x y, x ∈ xs -> y ∈ ys -> C Tryz.prog f [.agg (enc x), .agg (enc y)] (Bool' (eq x y)) []) (hp : ∀ (x : α) (h : Heap), viewV h (.agg (enc x)) = some (.agg (enc x)) /\ plainV (.agg (enc x)) = true) :
  C Tryz.prog 86 [.lst false 4 (xs.map enc), .lst false 4 (ys.map enc), .fn f []] (Bool' (eqAll eq xs ys)) [] := by
 refine C_real (fun _ _ => by kernel_rfl) rfl rfl fun hr => ?_
 have hx := (hr.get (j := 0) rfl).len;rw [List.length_map] at hx;unfold maxLen at hx;refine CI Tryz.func86 ?_;refine rN ?_;refine brA_split (fun h1 => ?_) (fun h1 => ?_);rotate_left
 ·refine rN ?_;refine ends_bool (Eq.symm (Bool.eq_false_iff.2 fun h => ?_));have := eqAll_len h;simp at h1;omega
 have hl : xs.length = ys.length := by simp at h1; omega
 refine rN ?_;refine loop_count 17 xs.length (fun k _ m _ => (∃ d, m = d + 20) /\ Hid (∀ (j : Nat), j < k -> ∀ (x y : α), xs[j]? = some x -> ys[j]? = some y -> eq x y = true)) _ rfl (by rfl) ⟨⟨_, rfl⟩, by intro j hj; omega⟩ ?_ ?_
 ·rintro k t h m hk hci hs ⟨⟨d, rfl⟩, hb⟩;have hw : IntKind.i64.wrap ((k : Int) + 1) = (k : Int) + 1 := wrap_ok (by omega);obtain ⟨x, hx⟩ : ∃ x, xs[k]? = some x := ⟨xs[k], by simp⟩;obtain ⟨y, hy⟩ : ∃ y, ys[k]? = some y := ⟨ys[k]'(by omega), by simp⟩;have hk' : decide (k < xs.length) = true := by simp [hk]
  have e0 := hs 0 rfl;have e1 := hs 1 rfl;have e2 := hs 2 rfl;have e15 := hs 15 rfl;have e16 := hs 16 rfl;clear hs;simp -dsimp -implicitDefEqProofs at e0 e1 e2 e15 e16;have hex := he x;have hey := he y;replace hk := hid hk;replace hl := hid hl;have hf' := hid (hf x y (List.mem_of_getElem? hx) (List.mem_of_getElem? hy));obtain ⟨a0, a1, a2, a3, ea⟩ := len4 hex;obtain ⟨b0, b1, b2, b3, eb⟩ := len4 hey;have px := fun h => (hp x h).1
  have py := fun h => (hp y h).1
  have qx := (hp x (fun _ => none)).2;have qy := (hp y (fun _ => none)).2;rw [ea] at hf' px qx;rw [eb] at hf' py qy;replace px := hid px;replace py := hid py;clear hf hp;refine rS (aN e0 (aN e1 (aN e2 (aN e15 (aN e16 (aN hci (aN hk' (aN hx (aN hy (aN ea eb)))))))))) ?_;refine call_C hf'.out (by rw [List.mapM_cons, px.out, List.mapM_cons, py.out]; rfl) (Or.inr (by rw [List.all_cons, qx, List.all_cons, qy]; rfl)) (Nat.le_of_ble_eq_true rfl) ?_;refine rN ?_;cases hxy : eq x y
  ·refine rN ?_;refine ends_bool (Eq.symm (Bool.eq_false_iff.2 fun h => ?_));have := (eqAll_get.1 h).2 k x y hx hy;rw [hxy] at this;cases this
  ·refine rS (aN hw (aN hci (aN e0 (aN e1 (aN e2 (aN e15 e16)))))) ?_;intro j hj x' y' hx' hy';rcases Nat.lt_or_ge j k with g | g
   ·exact hb.out j g x' y' hx' hy'
   ·have : j = k := by omega
    subst this;rw [hx] at hx';rw [hy] at hy';cases hx'; cases hy'
    exact hxy
 ·rintro t h m hci hs ⟨⟨d, rfl⟩, hb⟩;have e0 := hs 0 rfl;have e1 := hs 1 rfl;have e2 := hs 2 rfl;have e15 := hs 15 rfl;have e16 := hs 16 rfl;clear hs;simp -dsimp -implicitDefEqProofs at e0 e1 e2 e15 e16;refine rS (aN e0 (aN e1 (aN e2 (aN e15 (aN e16 hci))))) ?_;exact ends_bool (Eq.symm (eqAll_get.2 ⟨hl, fun j x y hx hy => hb.out j (List.getElem?_eq_some_iff.1 hx).1 x y hx hy⟩))
theorem desk_SameAnswer0 (a : S.Answer) : C Tryz.prog 49 [.agg (ansC false a), .agg [Int' 0, Int' 0, .nl]] (Bool' (decide (a = S.Answer.zero))) [] := (desk_SameAnswer a S.Answer.zero).args (.cons (.refl _) (.cons sub_ans0 (.nil _)))
theorem hall_Same1 (a b : S.Last) : C Tryz.prog 92 [.agg (lastC false a), .agg (lastC false b)] (Bool' (decide (a = b))) [] := by
 refine CI Tryz.func92 ?_;refine rN ?_;refine guardC_C (desk_SameAnswer a.a b.a) (by first | rfl | (simp -dsimp -implicitDefEqProofs; done)) (by first | exact Or.inr (by rfl) | exact Or.inl (by rfl)) ?_;refine rN ?_;exact ends_eq (by cases a; cases b; simp)
theorem equal_lasts (xs ys : List S.Last) : C Tryz.prog 86 [.lst false 4 (xs.map (lastC false)), .lst false 4 (ys.map (lastC false)), .fn 92 []] (Bool' (decide (xs = ys))) [] := by
 rw [<- eqAll_dec];exact equalFunc_lasts (fun _ => rfl) xs ys (fun x y _ _ => hall_Same1 x y) (fun _ _ => ⟨rfl, rfl⟩)
theorem hall_Same (a b : S.Hall) : C Tryz.prog 42 [.agg (hallC false a), .agg (hallC false b)] (Bool' (decide (a = b))) [] := by
 refine CI Tryz.func42 ?_;refine rC (desk_Same a.d b.d) ?_;refine rN ?_;refine guardC_C (equal_lasts a.last b.last) (by first | rfl | (simp -dsimp -implicitDefEqProofs; done)) (by first | exact Or.inr (by rfl) | exact Or.inl (by rfl)) ?_;refine rN ?_;exact ends_eq (by cases a; cases b; simp)
theorem hall_Check (h : S.Hall) : C Tryz.prog 121 [.agg (hallC false h)] (Int' (S.checkHall h)) [] := by
 obtain ⟨d, ls⟩ := h;obtain ⟨r, hr⟩ : ∃ r, S.checkHall ⟨d, ls⟩ = r := ⟨_, rfl⟩;rw [hr];unfold S.checkHall at hr;simp only at hr;replace hr := hid hr;refine CI Tryz.func121 ?_;refine rC (desk_Check d) ?_;refine rN ?_;by_cases h1 : S.checkDesk d = 0
 rotate_left
 ·refine rS h1 ?_;exact ends_int (by rw [<- hr.out, if_pos h1])
 refine rS h1 ?_;refine brA_split (fun h2 => ?_) (fun h2 => ?_);rotate_left
 ·refine rN ?_;exact ends_int (by simp at h2; rw [<- hr.out, if_neg (by simp [h1]), if_pos (by omega)])
 simp at h2;have hl : ls.length = 3 := by omega
 have hr2 := hr.out;rw [if_neg (by simp [h1]), if_neg (by simp [hl])] at hr2;replace hr2 := hid hr2;clear hr h1;refine rN ?_;refine loop_count 20 ls.length (fun k _ m t => (∃ d, m = d + 20) /\ Hid (∀ (j : Nat) (x : S.Last), j < k -> ls[j]? = some x -> S.checkLast x = 0)) _ rfl (by rfl) ⟨⟨_, rfl⟩, by intro j x hj; omega⟩ ?_ ?_
 ·rintro k t h m hk hci hs ⟨⟨d, rfl⟩, hb⟩;have hw : IntKind.i64.wrap ((k : Int) + 1) = (k : Int) + 1 := wrap_ok (by omega);obtain ⟨x, hx⟩ : ∃ x, ls[k]? = some x := ⟨ls[k], by simp⟩;have hk' : decide (k < ls.length) = true := by simp [hk]
  have e1 := hs 1 rfl;have e18 := hs 18 rfl;have e19 := hs 19 rfl;clear hs;simp -dsimp -implicitDefEqProofs at e1 e18 e19;replace hk := hid hk;obtain ⟨q, hq⟩ : ∃ q, S.checkLast x = q := ⟨_, rfl⟩;have hbad : q ≠ 0 -> q = r := fun g => by rw [<- hr2.out, firstBad_at hb.out hx (by rw [hq]; exact g), hq]
  have hgood : q = 0 -> ∀ (j : Nat) (y : S.Last), j < k + 1 -> ls[j]? = some y -> S.checkLast y = 0 := fun g => upto_succ hb.out hx (by rw [hq]; exact g)
  replace hbad := hid hbad;replace hgood := hid hgood;clear hb;obtain ⟨s, a⟩ := x;unfold S.checkLast at hq;simp only at hq;have cs : decide (s < 0) = true \/ (decide (s < 0) = false /\ (decide (40 < s) = true \/ decide (40 < s) = false)) := by simp; omega
  rcases cs with c1 | ⟨c1, c2 | c2⟩
  ·have e : q = 3 := by rw [<- hq, if_pos (by simp at c1; omega)]
   have := hbad.out (by omega);clear hq hbad hgood;refine rS (aN e1 (aN e18 (aN e19 (aN hci (aN hk' (aN hx c1)))))) ?_;exact ends_int (by omega)
  ·have e : q = 3 := by rw [<- hq, if_pos (by simp at c2; omega)]
   have := hbad.out (by omega);clear hq hbad hgood;refine rS (aN e1 (aN e18 (aN e19 (aN hci (aN hk' (aN hx (aN c1 c2))))))) ?_;exact ends_int (by omega)
  rw [if_neg (by simp at c1 c2; omega)] at hq;by_cases h3 : S.checkAnswer a = 0
  rotate_left
  ·have e : q = S.checkAnswer a := by rw [<- hq, if_pos h3]
   have := hbad.out (by rw [e]; exact h3);clear hq hbad hgood;refine rD (aN e1 (aN e18 (aN e19 (aN hci (aN hk' (aN hx (aN c1 c2))))))) (desk_CheckAnswer a) ?_;refine rS h3 ?_;exact ends_int (by omega)
  rw [if_neg (by simp [h3])] at hq;by_cases h4 : s = 0
  ·subst h4;by_cases h5 : a = S.Answer.zero
   ·have e : q = 0 := by rw [<- hq, if_neg (by simp [h5])]
    have hg := hgood.out e;clear hq hbad hgood;refine rD (aN e1 (aN e18 (aN e19 (aN hci (aN hk' hx))))) (desk_CheckAnswer a) ?_;refine rD h3 (desk_SameAnswer0 a) ?_;refine rS (aN e1 (aN e18 (aN e19 (aN hci (aN hw h5))))) ?_;exact hg
   ·have e : q = 4 := by rw [<- hq, if_pos ⟨rfl, h5⟩]
    have := hbad.out (by omega);clear hq hbad hgood;refine rD (aN e1 (aN e18 (aN e19 (aN hci (aN hk' hx))))) (desk_CheckAnswer a) ?_;refine rD h3 (desk_SameAnswer0 a) ?_;refine rS (aN e1 (aN e18 (aN e19 (aN hci (aN hw h5))))) ?_;exact ends_int (by omega)
  ·have e : q = 0 := by rw [<- hq, if_neg (fun g => h4 g.1)]
   have hg := hgood.out e;clear hq hbad hgood;refine rD (aN e1 (aN e18 (aN e19 (aN hci (aN hk' (aN hx (aN c1 c2))))))) (desk_CheckAnswer a) ?_;refine rS (aN h3 (aN h4 (aN e1 (aN e18 (aN e19 (aN hci hw)))))) ?_;exact hg
 ·rintro t h m hci hs ⟨⟨d, rfl⟩, hb⟩;have hfb := firstBad_none (f := S.checkLast) (xs := ls) hb.out;have e1 := hs 1 rfl;have e18 := hs 18 rfl;have e19 := hs 19 rfl;clear hs;simp -dsimp -implicitDefEqProofs at e1 e18 e19;refine rS (aN e1 (aN e18 (aN e19 hci))) ?_;exact ends_int (by rw [<- hr2.out, hfb])
theorem hall_Copy (d : S.Desk) (ls : List S.Last) (hd : Small d) (h2 : ls.length <= 100000) (h3 : ∀ x, x ∈ ls -> x.a.d.length <= 100000) :
  C Tryz.prog 74 [.agg (hallC false ⟨d, ls⟩)] (.agg [.lst true 2 (d.zs.map (zoneC false)), .lst true 1 (I d.b.k), Int' d.b.h, Int' d.b.t, .own 0 0 ls.length]) [⟨111, 4, ls.map (lastC true)⟩] := by
 have hcl := clone_lasts (ls.map (lastC false)) (by simp; omega) (plain_map (fun _ => rfl) _);simp only [List.length_map] at hcl;replace hcl := hid hcl;have hdc := hid (desk_Copy d hd);replace h3 := hid h3;clear hd;refine C_inline [28] Tryz.func74 (fun _ _ => by kernel_rfl) rfl (by kernel_rfl) (by rfl) (by decide) (by rfl) (by rfl) (by first | rfl | exact plain_I _ | exact plain_map (fun _ => rfl) _) ?_;refine rC hdc.out ?_;refine rC hcl.out ?_;refine rN ?_;refine loop_count 16 ls.length (fun k h m _ => h 0 = some ⟨30, 5, [[.lst true 2 (d.zs.map (zoneC false)), .lst true 1 (I d.b.k), Int' d.b.h, Int' d.b.t, .own 28 0 ls.length]]⟩ /\ h 28 = some ⟨111, 4, mix (lastC true) (lastC false) ls k⟩ /\ h 4 = some ⟨30, 5, [[.nl, .nl, Int' 0, Int' 0, .nl]]⟩ /\ ∃ d, m = d + 64) _ rfl (by rfl) ?_ ?_ ?_
 ·simp -dsimp -implicitDefEqProofs
 ·rintro k t h m hk hci hs ⟨h0, h28, h4, d', rfl⟩;have hw : IntKind.i64.wrap ((k : Int) + 1) = (k : Int) + 1 := wrap_ok (by omega);obtain ⟨x, hx⟩ : ∃ x, ls[k]? = some x := ⟨ls[k], by simp⟩;have hk' : decide (k < ls.length) = true := by simp [hk]
  have hm := mix_get (f := lastC true) (g := lastC false) hx;have e1 := hs 1 rfl;have e2 := hs 2 rfl;have e14 := hs 14 rfl;have e15 := hs 15 rfl;clear hs;simp -dsimp -implicitDefEqProofs at e1 e2 e14 e15;have hx3 := h3.out x (List.mem_of_getElem? hx);have hms := mix_set (f := lastC true) (g := lastC false) hx;refine rD (aN e1 (aN e2 (aN e14 (aN e15 (aN hci (aN hk' (aN hm (aN h0 (aN h28 (aN h4 hk)))))))))) (desk_CopyAnswer x.a (by omega)) ?_;exact rW (aN h0 (aN h28 (aN h4 (aN hk (aN e1 (aN e2 (aN e14 (aN e15 (aN hci (aN hw (aN hm hms)))))))))))
 ·rintro t h m hci hs ⟨h0, h28, h4, d', rfl⟩;have e1 := hs 1 rfl;have e2 := hs 2 rfl;have e14 := hs 14 rfl;have e15 := hs 15 rfl;clear hs;simp -dsimp -implicitDefEqProofs at e1 e2 e14 e15;refine rS (aN e1 (aN e2 (aN e14 (aN e15 (aN hci (aN h0 (aN h28 h4))))))) ?_;exact ⟨⟨.agg [.lst true 2 (d.zs.map (zoneC false)), .lst true 1 (I d.b.k), Int' d.b.h, Int' d.b.t, .own 0 0 ls.length], by rfl, Sub.refl _⟩, by simp [h28]⟩
theorem checkHall_parts {h : S.Hall} (e : S.checkHall h = 0) : S.checkDesk h.d = 0 /\ h.last.length = 3 /\ ∀ x, x ∈ h.last -> S.checkLast x = 0 := by
 unfold S.checkHall at e;split at e
 ·rename_i g; exact absurd e g
 ·rename_i g;split at e
  ·cases e
  ·rename_i g2;exact ⟨by simpa using g, by simpa using g2, firstBad_zero e⟩
theorem checkLast_parts {x : S.Last} (e : S.checkLast x = 0) : 0 <= x.seq /\ x.seq <= 40 /\ S.checkAnswer x.a = 0 /\ (x.seq = 0 -> x.a = S.Answer.zero) := by
 unfold S.checkLast at e;split at e
 ·cases e
 ·split at e
  ·rename_i g; exact absurd e g
  ·split at e
   ·cases e
   ·rename_i g1 g2 g3;refine ⟨by omega, by omega, by simpa using g2, fun h => ?_⟩;by_cases h2 : x.a = S.Answer.zero
    ·exact h2
    ·exact absurd ⟨h, h2⟩ g3
theorem checkRec_parts {r : S.Rec} (e : S.checkRec r = 0) : 0 <= r.who /\ r.who < 3 /\ 1 <= r.seq /\ r.seq <= 40 /\ S.checkCmd r.c = 0 := by
 unfold S.checkRec at e;split at e
 ·cases e
 ·exact ⟨by omega, by omega, by omega, by omega, e⟩
abbrev nextR (r : S.Hall × S.Answer × Int) : AV := .tup [.agg (hallC true r.1), .agg (ansC true r.2.1), Int' r.2.2]
theorem OutL.lasts {h : Heap} {i n : Nat} {e : HE} {fr : Bool} {xs : List S.Last} {cs ts : List AV} (hi : h i = some e) (he : e.s = 4 /\ e.rows = xs.map (lastC true)) (hn : n = xs.length) (g : OutL h cs ts) : OutL h (.own i 0 n :: cs) (.lst fr 4 (xs.map (lastC false)) :: ts) :=
 .cons (own_outR (ty := e.ty) (rows := xs.map (lastC true)) (by rw [hi, <- he.1, <- he.2]) (by simpa using hn) (mapM_map (f := lastC true) (g := fun (r : List AV) => r.mapM (leafP h [] 2)) (e := lastC false) (fun _ => rfl) xs) (by simp [freshCell])) (.lst (fun _ => rfl) (SubR.refl _)) g
theorem hall_Next_bad1 (h : S.Hall) (r : S.Rec) (g : S.checkHall h ≠ 0) : C Tryz.prog 90 [.agg (hallC false h), .agg (recC false r)] (nextR (S.Hall.zero, S.Answer.zero, S.checkHall h)) [] := by
 have h1 := hid (hall_Check h);generalize S.checkHall h = e at *;refine CG [(16, [76080]), (17, [11004])] Tryz.func90 ?_;refine rC h1.out ?_;refine rS g ?_;exact ends_aai outL outL rfl
theorem hall_Next_bad2 (h : S.Hall) (r : S.Rec) (g : S.checkHall h = 0) (g2 : S.checkRec r ≠ 0) : C Tryz.prog 90 [.agg (hallC false h), .agg (recC false r)] (nextR (S.Hall.zero, S.Answer.zero, S.checkRec r)) [] := by
 have h1 := hid (g ▸ hall_Check h);have h2 := hid (note_Check r);clear g;generalize S.checkRec r = e at *;refine CG [(16, [76080]), (17, [11004])] Tryz.func90 ?_;refine rC h1.out ?_;refine rC h2.out ?_;refine rS g2 ?_;exact ends_aai outL outL rfl
theorem checkAnswer_len5 {a : S.Answer} (h : S.checkAnswer a = 0) : a.d.length <= 100000 := by have := checkAnswer_len h; omega
theorem hall_Next_ok (h : S.Hall) (r : S.Rec) (g : S.checkHall h = 0) (g2 : S.checkRec r = 0) : C Tryz.prog 90 [.agg (hallC false h), .agg (recC false r)] (nextR (S.nextedHall h r)) [] := by
 obtain ⟨d0, l3, lk⟩ := checkHall_parts g;obtain ⟨w0, w1, s0, s1, c0⟩ := checkRec_parts g2;have h1 := hid (g ▸ hall_Check h);have h2 := hid (g2 ▸ note_Check r);have h3 := hall_Copy h.d h.last (small_of d0).1 (by omega) (fun x hx => checkAnswer_len5 (checkLast_parts (lk x hx)).2.2.1);obtain ⟨d, ls⟩ := h;obtain ⟨who, seq, c⟩ := r;simp only at d0 l3 lk w0 w1 s0 s1 c0 h3;have pre : Pre d who c := ⟨d0, w0, w1, c0⟩;have hdo := hid (do_eq (do_of pre));have hal := checkAnswer_len5 (done_did pre).ans;clear pre;unfold S.nextedHall;simp only;generalize S.doneDesk d who c = q at *;obtain ⟨m, a⟩ := q;simp only at hdo hal
 match ls, l3 with
 | [x0, x1, x2], _ =>
  have q0 := checkLast_parts (lk x0 (by simp));have q1 := checkLast_parts (lk x1 (by simp));have q2 := checkLast_parts (lk x2 (by simp));replace h3 := hid h3;clear g g2 lk d0 c0 l3;rcases (by omega : who = 0 \/ who = 1 \/ who = 2) with rfl | rfl | rfl
  ·have ex : ([x0, x1, x2].getD (0 : Int).toNat S.Last.zero) = x0 := rfl;rw [ex];clear ex;have hw : IntKind.i64.wrap (x0.seq + 1) = x0.seq + 1 := wrap_ok (by have := q0.1; have := q0.2.1; omega);by_cases e1 : seq = x0.seq
   ·rw [if_pos e1];have hx := checkAnswer_len5 q0.2.2.1;have e1' : decide (seq = x0.seq) = true := by simp [e1]
    clear q0 q1 q2;refine CG [(16, [76080]), (17, [11004])] Tryz.func90 ?_;refine rC h1.out ?_;refine rC h2.out ?_;refine rC h3.out ?_;refine rD e1' (desk_CopyAnswer x0.a (by omega)) ?_;refine rN ?_;exact ends_aai outL outL rfl
   have e1' : decide (seq = x0.seq) = false := by simp [e1]
   rw [if_neg e1];by_cases e2 : seq = x0.seq + 1
   ·rw [if_neg (by simp [e2])];have e2' : decide (seq = x0.seq + 1) = true := by simp [e2]
    clear q0 q1 q2 e2 e1;refine CG [(16, [76080]), (17, [11004])] Tryz.func90 ?_;refine rC h1.out ?_;refine rC h2.out ?_;refine rC h3.out ?_;refine rD (aN e1' (aN e2' hw)) hdo.out ?_;refine rC (desk_CopyAnswer a (by omega)) ?_;refine rN ?_;exact ends_aai outL outL rfl
   ·rw [if_pos e2];have e2' : decide (seq = x0.seq + 1) = false := by simp [e2]
    clear q0 q1 q2 e2 e1;refine CG [(16, [76080]), (17, [11004])] Tryz.func90 ?_;refine rC h1.out ?_;refine rC h2.out ?_;refine rC h3.out ?_;refine rS (aN e1' (aN e2' hw)) ?_;exact ends_aai outL outL rfl
  ·have ex : ([x0, x1, x2].getD (1 : Int).toNat S.Last.zero) = x1 := rfl;rw [ex];clear ex;have hw : IntKind.i64.wrap (x1.seq + 1) = x1.seq + 1 := wrap_ok (by have := q1.1; have := q1.2.1; omega);by_cases e1 : seq = x1.seq
   ·rw [if_pos e1];have hx := checkAnswer_len5 q1.2.2.1;have e1' : decide (seq = x1.seq) = true := by simp [e1]
    clear q0 q1 q2;refine CG [(16, [76080]), (17, [11004])] Tryz.func90 ?_;refine rC h1.out ?_;refine rC h2.out ?_;refine rC h3.out ?_;refine rD e1' (desk_CopyAnswer x1.a (by omega)) ?_;refine rN ?_;exact ends_aai outL outL rfl
   have e1' : decide (seq = x1.seq) = false := by simp [e1]
   rw [if_neg e1];by_cases e2 : seq = x1.seq + 1
   ·rw [if_neg (by simp [e2])];have e2' : decide (seq = x1.seq + 1) = true := by simp [e2]
    clear q0 q1 q2 e2 e1;refine CG [(16, [76080]), (17, [11004])] Tryz.func90 ?_;refine rC h1.out ?_;refine rC h2.out ?_;refine rC h3.out ?_;refine rD (aN e1' (aN e2' hw)) hdo.out ?_;refine rC (desk_CopyAnswer a (by omega)) ?_;refine rN ?_;exact ends_aai outL outL rfl
   ·rw [if_pos e2];have e2' : decide (seq = x1.seq + 1) = false := by simp [e2]
    clear q0 q1 q2 e2 e1;refine CG [(16, [76080]), (17, [11004])] Tryz.func90 ?_;refine rC h1.out ?_;refine rC h2.out ?_;refine rC h3.out ?_;refine rS (aN e1' (aN e2' hw)) ?_;exact ends_aai outL outL rfl
  ·have ex : ([x0, x1, x2].getD (2 : Int).toNat S.Last.zero) = x2 := rfl;rw [ex];clear ex;have hw : IntKind.i64.wrap (x2.seq + 1) = x2.seq + 1 := wrap_ok (by have := q2.1; have := q2.2.1; omega);by_cases e1 : seq = x2.seq
   ·rw [if_pos e1];have hx := checkAnswer_len5 q2.2.2.1;have e1' : decide (seq = x2.seq) = true := by simp [e1]
    clear q0 q1 q2;refine CG [(16, [76080]), (17, [11004])] Tryz.func90 ?_;refine rC h1.out ?_;refine rC h2.out ?_;refine rC h3.out ?_;refine rD e1' (desk_CopyAnswer x2.a (by omega)) ?_;refine rN ?_;exact ends_aai outL outL rfl
   have e1' : decide (seq = x2.seq) = false := by simp [e1]
   rw [if_neg e1];by_cases e2 : seq = x2.seq + 1
   ·rw [if_neg (by simp [e2])];have e2' : decide (seq = x2.seq + 1) = true := by simp [e2]
    clear q0 q1 q2 e2 e1;refine CG [(16, [76080]), (17, [11004])] Tryz.func90 ?_;refine rC h1.out ?_;refine rC h2.out ?_;refine rC h3.out ?_;refine rD (aN e1' (aN e2' hw)) hdo.out ?_;refine rC (desk_CopyAnswer a (by omega)) ?_;refine rN ?_;exact ends_aai outL outL rfl
   ·rw [if_pos e2];have e2' : decide (seq = x2.seq + 1) = false := by simp [e2]
    clear q0 q1 q2 e2 e1;refine CG [(16, [76080]), (17, [11004])] Tryz.func90 ?_;refine rC h1.out ?_;refine rC h2.out ?_;refine rC h3.out ?_;refine rS (aN e1' (aN e2' hw)) ?_;exact ends_aai outL outL rfl
theorem hall_Next (h : S.Hall) (r : S.Rec) : C Tryz.prog 90 [.agg (hallC false h), .agg (recC false r)] (nextR (S.nextHall h r)) [] := by
 unfold S.nextHall;by_cases g : S.checkHall h = 0
 ·rw [if_neg (by simp [g])];by_cases g2 : S.checkRec r = 0
  ·rw [if_neg (by simp [g2])];exact hall_Next_ok h r g g2
  ·rw [if_pos g2];exact hall_Next_bad2 h r g g2
 ·rw [if_pos g];exact hall_Next_bad1 h r g
theorem next_eq {h : S.Hall} {r : S.Rec} {q : S.Hall × S.Answer × Int} (e : S.nextHall h r = q) : C Tryz.prog 90 [.agg (hallC false h), .agg (recC false r)] (nextR q) [] := e ▸ hall_Next h r
theorem checkHall_of {h : S.Hall} (h1 : S.checkDesk h.d = 0) (h2 : h.last.length = 3) (h3 : ∀ x, x ∈ h.last -> S.checkLast x = 0) : S.checkHall h = 0 := by
 unfold S.checkHall;rw [if_neg (by simp [h1]), if_neg (by simp [h2])];exact firstBad_none fun j x _ hx => h3 x (List.mem_of_getElem? hx)
structure Next (h : S.Hall) (r : S.Rec) (m : S.Hall) (a : S.Answer) : Prop where
 h0 : S.checkHall h = 0
 r0 : S.checkRec r = 0
 ok : S.checkHall m = 0
 ans : S.checkAnswer a = 0
 who : ∃ n : Nat, r.who = n /\ n < 3 /\ m.last[n]? = some ⟨r.seq, a⟩
 others : ∀ n : Nat, r.who ≠ n -> m.last[n]? = h.last[n]?
 did : (m = h /\ ∃ n : Nat, r.who = n /\ h.last[n]? = some ⟨r.seq, a⟩) \/ ((∃ (n : Nat) (x : S.Last), r.who = n /\ h.last[n]? = some x /\ r.seq = x.seq + 1) /\ Did h.d r.who r.c m.d a /\ S.doneDesk h.d r.who r.c = (m.d, a))
theorem next_of {h : S.Hall} {r : S.Rec} (e : (S.nextHall h r).2.2 = 0) : S.nextHall h r = ((S.nextHall h r).1, (S.nextHall h r).2.1, 0) /\ Next h r (S.nextHall h r).1 (S.nextHall h r).2.1 := by
 refine ⟨by rw [<- e], ?_⟩;unfold S.nextHall at e ⊢;by_cases h0 : S.checkHall h = 0
 rotate_left
 ·rw [if_pos h0] at e; exact absurd e h0
 rw [if_neg (by simp [h0])] at e ⊢;by_cases r0 : S.checkRec r = 0
 rotate_left
 ·rw [if_pos r0] at e; exact absurd e r0
 rw [if_neg (by simp [r0])] at e ⊢;obtain ⟨d0, l3, lk⟩ := checkHall_parts h0;obtain ⟨w0, w1, s0, s1, c0⟩ := checkRec_parts r0;obtain ⟨n, hn⟩ : ∃ n : Nat, r.who = n := ⟨r.who.toNat, by omega⟩;have hn3 : n < 3 := by omega
 obtain ⟨x, hx⟩ : ∃ x, h.last[n]? = some x := ⟨h.last[n]'(by omega), by simp⟩;have hxc := lk x (List.mem_of_getElem? hx);unfold S.nextedHall at e ⊢;have hg : h.last.getD r.who.toNat S.Last.zero = x := by rw [hn]; simp only [Int.toNat_natCast]; exact getD_of hx
 rw [hg] at e ⊢;by_cases e1 : r.seq = x.seq
 ·rw [if_pos e1];obtain ⟨q1, q2, q3, q4⟩ := checkLast_parts hxc;have hx' : h.last[n]? = some ⟨r.seq, x.a⟩ := by rw [hx, e1]
  exact ⟨h0, r0, h0, q3, ⟨n, hn, hn3, hx'⟩, fun _ _ => rfl, .inl ⟨rfl, n, hn, hx'⟩⟩
 ·rw [if_neg e1] at e ⊢;by_cases e2 : r.seq = x.seq + 1
  ·rw [if_neg (by simp [e2])];have did := done_did ⟨d0, w0, w1, c0⟩;simp only;refine ⟨h0, r0, checkHall_of did.ok (by simp [l3]) (fun y hy => ?_), did.ans, ⟨n, hn, hn3, ?_⟩, fun k hk => ?_, .inr ⟨⟨n, x, hn, hx, e2⟩, did, rfl⟩⟩
   ·rcases List.mem_or_eq_of_mem_set hy with g | g
    ·exact lk y g
    ·subst g;unfold S.checkLast;have := did.ans;rw [if_neg (by simp only; omega), if_neg (by simp [this]), if_neg (by simp only; omega)]
   ·rw [hn];simp only [Int.toNat_natCast];exact get_set_self hx
   ·rw [hn];simp only [Int.toNat_natCast];exact List.getElem?_set_ne (by omega)
  ·rw [if_pos e2] at e;cases e
theorem drop_cons_get {α : Type} {xs : List α} {k : Nat} {x : α} (h : xs[k]? = some x) : xs.drop k = x :: xs.drop (k + 1) := by
 obtain ⟨h1, h2⟩ := List.getElem?_eq_some_iff.1 h;rw [List.drop_eq_getElem_cons h1, h2]
def RunAt (h : Heap) (i : Nat) (l : List S.Rec) (q : S.Hall × Int) : Prop := ∃ H : S.Hall, h i = some ⟨30, 5, [hallC true H]⟩ /\ S.replayFrom H l = q
theorem hall_Replay (l : List S.Rec) : C Tryz.prog 41 [.lst false 7 (l.map (recC false))] (.tup [.agg (hallC true (S.replay l).1), Int' (S.replay l).2]) [] := by
 obtain ⟨q, hq⟩ : ∃ q, S.replay l = q := ⟨_, rfl⟩;rw [hq];unfold S.replay at hq;by_cases hl : 80 < l.length
 ·rw [if_pos hl] at hq;subst hq;have hl' : decide ((80 : Int) < (l.length : Int)) = true := by simp; omega
  refine CI Tryz.func41 ?_;refine rS hl' ?_;exact ends_ag outL rfl
 rw [if_neg hl] at hq;replace hq := hid hq;have hl' : decide ((80 : Int) < (l.length : Int)) = false := by simp; omega
 replace hl := hid hl;refine CI Tryz.func41 ?_;refine rD hl' hall_New ?_;refine rN ?_;refine loop_count 15 l.length (fun k h m _ => RunAt h 24 (l.drop k) q /\ h 0 = some ⟨30, 5, [[.nl, .nl, Int' 0, Int' 0, .nl]]⟩ /\ ∃ d, m = d + 32) _ rfl (by rfl) ⟨⟨S.Hall.new, rfl, hq.out⟩, rfl, ⟨_, rfl⟩⟩ ?_ ?_
 ·rintro k t h m hk hci hs ⟨⟨H, h24, hf⟩, h0, d, rfl⟩;have hw : IntKind.i64.wrap ((k : Int) + 1) = (k : Int) + 1 := wrap_ok (by have := hl.out; omega);obtain ⟨x, hx⟩ : ∃ x, l[k]? = some x := ⟨l[k], by simp⟩;have hk' : decide (k < l.length) = true := by simp [hk]
  have e2 := hs 2 rfl;have e4 := hs 4 rfl;have e13 := hs 13 rfl;have e14 := hs 14 rfl;clear hs;simp -dsimp -implicitDefEqProofs at e2 e4 e13 e14;replace hk := hid hk;have hf2 := hf;rw [drop_cons_get hx, S.replayFrom] at hf2;obtain ⟨w, hw2⟩ : ∃ w, S.nextHall H x = w := ⟨_, rfl⟩;have cn := hid (next_eq hw2);rw [hw2] at hf2;obtain ⟨m', a, e⟩ := w;simp only at hf2;clear hf;by_cases he : e = 0
  ·rw [if_neg (by simp [he])] at hf2;subst he;replace hf2 := hid hf2;clear hw2;refine rD (aN e2 (aN e4 (aN e13 (aN e14 (aN hci (aN hk' (aN hx (aN h24 h0)))))))) cn.out ?_;refine rS (aN e2 (aN e4 (aN e13 (aN e14 (aN hci (aN hw (aN h24 h0))))))) ?_;exact ⟨m', rfl, hf2.out⟩
  ·rw [if_pos he] at hf2;subst hf2;clear hw2;refine rD (aN e2 (aN e4 (aN e13 (aN e14 (aN hci (aN hk' (aN hx (aN h24 h0)))))))) cn.out ?_;refine rS (aN e2 (aN e4 (aN e13 (aN e14 (aN h24 (aN h0 he)))))) ?_;exact ends_ag outL rfl
 ·rintro t h m hci hs ⟨⟨H, h24, hf⟩, h0, d, rfl⟩;have e2 := hs 2 rfl;have e4 := hs 4 rfl;have e13 := hs 13 rfl;have e14 := hs 14 rfl;clear hs;simp -dsimp -implicitDefEqProofs at e2 e4 e13 e14;have hf2 := hf;rw [List.drop_length, S.replayFrom] at hf2;subst hf2;clear hf;refine rS (aN e2 (aN e4 (aN e13 (aN e14 (aN hci (aN h24 h0)))))) ?_;exact ends_ag outL rfl
end Go.Proofs.YtadmfokicjjglaaGreatDoor.E
