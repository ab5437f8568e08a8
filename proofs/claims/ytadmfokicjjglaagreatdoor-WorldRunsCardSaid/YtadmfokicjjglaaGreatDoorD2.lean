/- D2: Ta: tally.Owners. Tb: who wrote what, in plain data. Te: ref.FreshHall, ref.CheckRec, ref.nexted. Tf: ref.HallOf. Ua: ref.CheckHall, ref.SameHall, ref.Nexted; law.HallSays. -/
import Derived.Test.YtadmfokicjjglaaGreatDoorK1
import Derived.Test.YtadmfokicjjglaaGreatDoorX4
import Derived.Test.YtadmfokicjjglaaGreatDoorOw
import Derived.Test.YtadmfokicjjglaaGreatDoorD3
import Derived.Test.YtadmfokicjjglaaGreatDoorS1
import Derived.Test.YtadmfokicjjglaaGreatDoorX3
import Derived.Test.YtadmfokicjjglaaGreatDoorY0
namespace Go.Proofs.YtadmfokicjjglaaGreatDoor.E
open Go.RowKit Go.Proofs
set_option maxRecDepth 100000
set_option maxHeartbeats 1000000
set_option linter.unusedSimpArgs false
set_option linter.unusedVariables false
set_option maxHeartbeats 2000000
theorem ref_FreshHall : C Tryz.prog 55 [] (.agg (hallC true S.Hall.new)) [] := by
 refine CI Tryz.func55 ?_;refine rC ref_FreshDesk ?_;refine rN ?_;have zz : SubL SubC [Int' 0, Int' 0, Int' 0, .nl] (lastC false S.Last.zero) := .cons (.refl _) (.cons (.refl _) (.cons (.refl _) (.cons .nl (.nil _))));exact ⟨⟨_, rfl, .one (.agg (.cons (.refl _) (.cons (.refl _) (.cons (.refl _) (.cons (.refl _) (.cons (.lst (fun h => h) (.cons zz (.cons zz (.cons zz .nil)))) (.nil _)))))))⟩, rfl⟩
theorem ref_CheckRec (r : S.Rec) : C Tryz.prog 84 [.agg (recC false r)] (Int' (S.checkRec r)) [] := by
 obtain ⟨w, s, c⟩ := r;obtain ⟨e, he⟩ : ∃ e, S.checkRec ⟨w, s, c⟩ = e := ⟨_, rfl⟩;rw [he];unfold S.checkRec at he;simp only at he;by_cases h1 : w < 0 \/ 2 < w
 ·have h1' := in_no h1;rw [if_pos (by omega)] at he;subst he;clear h1;refine CI Tryz.func84 ?_;refine rC (ref_in w 0 2) ?_;refine rS h1' ?_;exact ends_int rfl
 have h1' := in_yes h1;by_cases h2 : s < 1 \/ 40 < s
 ·have h2' := in_no h2;rw [if_pos (by omega)] at he;subst he;clear h1 h2;refine CI Tryz.func84 ?_;refine rC (ref_in w 0 2) ?_;refine rD h1' (ref_in s 1 40) ?_;refine rS h2' ?_;exact ends_int rfl
 have h2' := in_yes h2;rw [if_neg (by omega)] at he;subst he;clear h1 h2;refine CI Tryz.func84 ?_;refine rC (ref_in w 0 2) ?_;refine rD h1' (ref_in s 1 40) ?_;refine rD h2' (ref_CheckCmd c) ?_;refine rN ?_;exact ends_int rfl
theorem OutL.lastsF {h : Heap} {i n : Nat} {e : HE} {xs : List S.Last} {cs ts : List AV} (hi : h i = some e) (he : e.s = 4 /\ e.rows = xs.map (lastC false)) (hn : n = xs.length) (g : OutL h cs ts) : OutL h (.own i 0 n :: cs) (.lst false 4 (xs.map (lastC false)) :: ts) := by
 have hi' : h i = some ⟨e.ty, 4, xs.map (lastC false)⟩ := by rw [hi, <- he.1, <- he.2]
 have ho := own_plain hi' (by simpa using hn) (fun r hr => by obtain ⟨z, _, rfl⟩ := List.mem_map.1 hr; rfl);have e1 : (xs.map (lastC false)).map (fun r => r.map unfr) = xs.map (lastC false) := by rw [List.map_map]; rfl
 rw [e1] at ho;exact .cons ho (.lst (fun h => by cases h) (SubR.refl _)) g
abbrev nextRF (r : S.Hall × S.Answer × Int) : AV := .tup [.agg (hallC false r.1), .agg (ansC false r.2.1), Int' r.2.2]
theorem ref_nexted (h : S.Hall) (r : S.Rec) (g : S.checkHall h = 0) (g2 : S.checkRec r = 0) : C Tryz.prog 62 [.agg (hallC false h), .agg (recC false r)] (nextRF (S.nextedHall h r)) [] := by
 obtain ⟨d0, l3, lk⟩ := checkHall_parts g;obtain ⟨w0, w1, s0, s1, c0⟩ := checkRec_parts g2;obtain ⟨d, ls⟩ := h;obtain ⟨who, seq, c⟩ := r;simp only at d0 l3 lk w0 w1 s0 s1 c0;have pre : Pre d who c := ⟨d0, w0, w1, c0⟩;have hdo := ref_Done d who c pre;clear pre;unfold S.nextedHall;simp only;generalize S.doneDesk d who c = q at *;obtain ⟨m, a⟩ := q;replace hdo := hid hdo
 match ls, l3 with
 | [x0, x1, x2], _ =>
  have q0 := checkLast_parts (lk x0 (by simp));have q1 := checkLast_parts (lk x1 (by simp));have q2 := checkLast_parts (lk x2 (by simp));have hcl := clone_lasts ([x0, x1, x2].map (lastC false)) (by simp) (plain_map (fun _ => rfl) _);replace hcl := hid hcl;clear g g2 lk d0 c0 l3;rcases (by omega : who = 0 \/ who = 1 \/ who = 2) with rfl | rfl | rfl
  ·have ex : ([x0, x1, x2].getD (0 : Int).toNat S.Last.zero) = x0 := rfl;rw [ex];clear ex;have hw : IntKind.i64.wrap (x0.seq + 1) = x0.seq + 1 := wrap_ok (by have := q0.1; have := q0.2.1; omega);clear q0 q1 q2;by_cases e1 : seq = x0.seq
   ·rw [if_pos e1];have e1' : decide (seq = x0.seq) = true := by simp [e1]
    refine CG [(4, [23004]), (9, [9004])] Tryz.func62 ?_;refine rN ?_;refine rS e1' ?_;exact ends_aai outL outL rfl
   have e1' : decide (seq = x0.seq) = false := by simp [e1]
   rw [if_neg e1];by_cases e2 : seq = x0.seq + 1
   ·rw [if_neg (by simp [e2])];have e2' : decide (seq = x0.seq + 1) = true := by simp [e2]
    clear e2 e1;refine CG [(4, [23004]), (9, [9004])] Tryz.func62 ?_;refine rN ?_;refine rD (aN e1' (aN e2' hw)) hdo.out ?_;refine rC hcl.out ?_;refine rN ?_;refine ends_aai ?_ outL rfl;exact .lst (fun h => h) (.lst (fun h => h) (.at (.at (.lastsF (xs := [⟨seq, a⟩, x1, x2]) rfl ⟨rfl, rfl⟩ rfl (.nil _)))))
   ·rw [if_pos e2];have e2' : decide (seq = x0.seq + 1) = false := by simp [e2]
    clear e2 e1;refine CG [(4, [23004]), (9, [9004])] Tryz.func62 ?_;refine rN ?_;refine rS (aN e1' (aN e2' hw)) ?_;exact ends_aai outL outL rfl
  ·have ex : ([x0, x1, x2].getD (1 : Int).toNat S.Last.zero) = x1 := rfl;rw [ex];clear ex;have hw : IntKind.i64.wrap (x1.seq + 1) = x1.seq + 1 := wrap_ok (by have := q1.1; have := q1.2.1; omega);clear q0 q1 q2;by_cases e1 : seq = x1.seq
   ·rw [if_pos e1];have e1' : decide (seq = x1.seq) = true := by simp [e1]
    refine CG [(4, [23004]), (9, [9004])] Tryz.func62 ?_;refine rN ?_;refine rS e1' ?_;exact ends_aai outL outL rfl
   have e1' : decide (seq = x1.seq) = false := by simp [e1]
   rw [if_neg e1];by_cases e2 : seq = x1.seq + 1
   ·rw [if_neg (by simp [e2])];have e2' : decide (seq = x1.seq + 1) = true := by simp [e2]
    clear e2 e1;refine CG [(4, [23004]), (9, [9004])] Tryz.func62 ?_;refine rN ?_;refine rD (aN e1' (aN e2' hw)) hdo.out ?_;refine rC hcl.out ?_;refine rN ?_;refine ends_aai ?_ outL rfl;exact .lst (fun h => h) (.lst (fun h => h) (.at (.at (.lastsF (xs := [x0, ⟨seq, a⟩, x2]) rfl ⟨rfl, rfl⟩ rfl (.nil _)))))
   ·rw [if_pos e2];have e2' : decide (seq = x1.seq + 1) = false := by simp [e2]
    clear e2 e1;refine CG [(4, [23004]), (9, [9004])] Tryz.func62 ?_;refine rN ?_;refine rS (aN e1' (aN e2' hw)) ?_;exact ends_aai outL outL rfl
  ·have ex : ([x0, x1, x2].getD (2 : Int).toNat S.Last.zero) = x2 := rfl;rw [ex];clear ex;have hw : IntKind.i64.wrap (x2.seq + 1) = x2.seq + 1 := wrap_ok (by have := q2.1; have := q2.2.1; omega);clear q0 q1 q2;by_cases e1 : seq = x2.seq
   ·rw [if_pos e1];have e1' : decide (seq = x2.seq) = true := by simp [e1]
    refine CG [(4, [23004]), (9, [9004])] Tryz.func62 ?_;refine rN ?_;refine rS e1' ?_;exact ends_aai outL outL rfl
   have e1' : decide (seq = x2.seq) = false := by simp [e1]
   rw [if_neg e1];by_cases e2 : seq = x2.seq + 1
   ·rw [if_neg (by simp [e2])];have e2' : decide (seq = x2.seq + 1) = true := by simp [e2]
    clear e2 e1;refine CG [(4, [23004]), (9, [9004])] Tryz.func62 ?_;refine rN ?_;refine rD (aN e1' (aN e2' hw)) hdo.out ?_;refine rC hcl.out ?_;refine rN ?_;refine ends_aai ?_ outL rfl;exact .lst (fun h => h) (.lst (fun h => h) (.at (.at (.lastsF (xs := [x0, x1, ⟨seq, a⟩]) rfl ⟨rfl, rfl⟩ rfl (.nil _)))))
   ·rw [if_pos e2];have e2' : decide (seq = x2.seq + 1) = false := by simp [e2]
    clear e2 e1;refine CG [(4, [23004]), (9, [9004])] Tryz.func62 ?_;refine rN ?_;refine rS (aN e1' (aN e2' hw)) ?_;exact ends_aai outL outL rfl
def hallOfFrom (h : S.Hall) (told : List S.Answer) : List S.Rec -> S.Hall × List S.Answer × Int
 | [] => (h, told, 0)
 | r :: l => if S.checkRec r ≠ 0 then (S.Hall.zero, [], S.checkRec r)
  else if (S.nextedHall h r).2.2 ≠ 0 then (S.Hall.zero, [], (S.nextedHall h r).2.2)
  else hallOfFrom (S.nextedHall h r).1 (told ++ [(S.nextedHall h r).2.1]) l
def hallOf (l : List S.Rec) : S.Hall × List S.Answer × Int := if 80 < l.length then (S.Hall.zero, [], 2) else hallOfFrom S.Hall.new [] l
theorem hallOf_replay : ∀ (l : List S.Rec) (h : S.Hall) (told : List S.Answer), S.checkHall h = 0 -> (hallOfFrom h told l).1 = (S.replayFrom h l).1 /\ (hallOfFrom h told l).2.2 = (S.replayFrom h l).2
 | [], h, told, h0 => ⟨rfl, rfl⟩
 | r :: l, h, told, h0 => by
  unfold hallOfFrom S.replayFrom;by_cases hr : S.checkRec r = 0
  ·have e : S.nextHall h r = S.nextedHall h r := by
    unfold S.nextHall;rw [if_neg (by simp [h0]), if_neg (by simp [hr])]
   rw [if_neg (by simp [hr]), e];by_cases he : (S.nextedHall h r).2.2 = 0
   ·rw [if_neg (by simp [he]), if_neg (by simp [he])];refine hallOf_replay l _ _ ?_;have := (next_of (h := h) (r := r) (by rw [e]; exact he)).2.ok;rwa [e] at this
   ·rw [if_pos he, if_pos he];exact ⟨rfl, rfl⟩
  ·have e : S.nextHall h r = (S.Hall.zero, S.Answer.zero, S.checkRec r) := by
    unfold S.nextHall;rw [if_neg (by simp [h0]), if_pos hr]
   rw [if_pos hr, e, if_pos hr];exact ⟨rfl, rfl⟩
def HallAt (i : Nat) (s : Nat) (h : Heap) (v : AV) (l : List S.Rec) (q : S.Hall × List S.Answer × Int) : Prop :=
 ∃ (H : S.Hall) (told : List S.Answer) (fr : Bool), h i = some ⟨30, 5, [hallC fr H]⟩ /\ OwnR [0, i] s h v 76 3 (told.map (ansC false)) /\ S.checkHall H = 0 /\ hallOfFrom H told l = q /\ told.length + l.length <= 80
abbrev hallOfR (q : S.Hall × List S.Answer × Int) : AV := .tup [.agg (hallC false q.1), .lst false 3 (q.2.1.map (ansC false)), Int' q.2.2]
theorem ref_HallOf (l : List S.Rec) : C Tryz.prog 34 [.lst false 7 (l.map (recC false))] (hallOfR (hallOf l)) [] := by
 obtain ⟨q, hq⟩ : ∃ q, hallOf l = q := ⟨_, rfl⟩;rw [hq];unfold hallOf at hq;by_cases hl : 80 < l.length
 ·rw [if_pos hl] at hq;subst hq;have hl' : decide ((80 : Int) < (l.length : Int)) = true := by simp; omega
  refine CG [(14, [10041, 10043])] Tryz.func34 ?_;refine rS hl' ?_;exact ends_ali outL outL rfl
 have hl' : decide ((80 : Int) < (l.length : Int)) = false := by simp; omega
 rw [if_neg hl] at hq;replace hl := hid hl;replace hq := hid hq;refine CG [(14, [10041, 10043])] Tryz.func34 ?_;refine rD hl' ref_FreshHall ?_;refine rN ?_;refine loop_count 19 l.length (fun j h m t => HallAt 28 m h (t 6) (l.drop j) q /\ h 0 = some ⟨30, 5, [[.nl, .nl, Int' 0, Int' 0, .nl]]⟩ /\ ∃ d, m = d + 52) _ rfl (by rfl) ⟨⟨S.Hall.new, [], true, rfl, .inl ⟨rfl, rfl⟩, by decide, hq.out, by have := hl.out; simp; omega⟩, rfl, ⟨_, rfl⟩⟩ ?_ ?_
 ·rintro j t h m hj hci hs ⟨⟨H, told, fr, h28, hown, hH, hf, hlen⟩, h0, d, rfl⟩;have hw : IntKind.i64.wrap ((j : Int) + 1) = (j : Int) + 1 := wrap_ok (by have := hl.out; omega);obtain ⟨x, hx⟩ : ∃ x, l[j]? = some x := ⟨l[j], by simp⟩;have hj' : decide (j < l.length) = true := by simp [hj]
  have e2 := hs 2 rfl;have e5 := hs 5 rfl;have e17 := hs 17 rfl;have e18 := hs 18 rfl;clear hs;simp -dsimp -implicitDefEqProofs at e2 e5 e17 e18;replace hj := hid hj;rw [drop_cons_get hx] at hf hlen;rw [hallOfFrom] at hf;simp only [List.length_cons] at hlen;have cr := ref_CheckRec x;by_cases hr : S.checkRec x = 0
  rotate_left
  ·rw [if_pos hr] at hf;subst hf;generalize S.checkRec x = e at hr cr ⊢;replace cr := hid cr;replace hlen := hid hlen;clear hown;refine rD (aN e2 (aN e5 (aN e17 (aN e18 (aN hci (aN hj' (aN hx h28))))))) cr.out ?_;refine rS (aN e2 (aN e5 (aN e17 (aN e18 (aN hr (aN h0 h28)))))) ?_;exact ends_ali outL outL rfl
  rw [if_neg (by simp [hr])] at hf;rw [hr] at cr;have cn := ref_nexted H x hH hr
  have e1 : S.nextHall H x = S.nextedHall H x := by
   unfold S.nextHall;rw [if_neg (by simp [hH]), if_neg (by simp [hr])]
  have hgood : (S.nextedHall H x).2.2 = 0 -> S.checkHall (S.nextedHall H x).1 = 0 := fun g => by
   have := (next_of (h := H) (r := x) (by rw [e1]; exact g)).2.ok;rwa [e1] at this
  clear e1 hr;generalize S.nextedHall H x = w at *;obtain ⟨M, a, e⟩ := w;simp only at hf hgood;replace cr := hid cr;replace cn := hid cn;by_cases he : e = 0
  rotate_left
  ·rw [if_pos he] at hf;subst hf;clear hgood hown;replace hlen := hid hlen;refine rD (aN e2 (aN e5 (aN e17 (aN e18 (aN hci (aN hj' (aN hx h28))))))) cr.out ?_;refine rD (aN e2 (aN e5 (aN e17 (aN e18 h28)))) cn.out ?_;refine rS (aN e2 (aN e5 (aN e17 (aN e18 (aN he h0))))) ?_;exact ends_ali outL outL rfl
  ·subst he;have hM := hgood rfl;rw [if_neg (by simp)] at hf;clear hgood;replace hM := hid hM;replace hf := hid hf;replace hlen := hid hlen;replace hH := hid hH;rcases hown with ⟨u6, ht⟩ | ⟨o, u6, hno, hos, go⟩
   ·have ht' : told = [] := by simpa using ht
    subst ht';clear ht;refine rD (aN e2 (aN e5 (aN e17 (aN e18 (aN hci (aN hj' (aN hx h28))))))) cr.out ?_;refine rD (aN e2 (aN e5 (aN e17 (aN e18 h28)))) cn.out ?_;refine rS (aN e2 (aN e5 (aN e17 (aN e18 (aN h28 (aN u6 (aN hw (aN h0 hci)))))))) ?_;refine ⟨M, [a], false, by simp -dsimp -implicitDefEqProofs, .inr ⟨_, rfl, by simp, by omega, by simp -dsimp -implicitDefEqProofs⟩, hM.out, hf.out, ?_⟩;have := hlen.out;simp at this ⊢;omega
   ·have n0 : ¬ o = 0 := fun e => hno (by simp [e])
    have n28 : ¬ o = 28 := fun e => hno (by simp [e])
    have n0' : ¬ 0 = o := fun e => hno (by simp [e])
    have n28' : ¬ 28 = o := fun e => hno (by simp [e])
    have hz : decide (told.length <= 100000000) = true := by have := hlen.out; simp; omega
    have hz2 : decide (told.length <= 100000000) = true := hz;rw [List.length_map] at u6;refine rD (aN e2 (aN e5 (aN e17 (aN e18 (aN hci (aN hj' (aN hx (aN h28 (aN n0 (aN n28 (aN n0' (aN n28' (aN go (apA hos)))))))))))))) cr.out ?_;refine rD (aN e2 (aN e5 (aN e17 (aN e18 (aN h28 (aN n0 (aN n28 (aN n0' (aN n28' (aN go (apA hos))))))))))) cn.out ?_;refine rS (aN e2 (aN e5 (aN e17 (aN e18 (aN h28 (aN u6 (aN hw (aN h0 (aN hci (aN n0 (aN n28 (aN n0' (aN n28' (aN go (aN hz (apA hos)))))))))))))))) ?_;have hm : told.map (ansC false) ++ [ansC false a] = (told ++ [a]).map (ansC false) := by simp
    refine ⟨M, told ++ [a], false, by simp -dsimp -implicitDefEqProofs, .inr ⟨d + 52 + 4 + 16 + 12 + 8 + 48 + 8 + 16, by simp, by simp, by omega, ?_⟩, hM.out, hf.out, ?_⟩
    ·rw [<- hm];simp -dsimp -implicitDefEqProofs
    ·have := hlen.out;simp at this ⊢;omega
 ·rintro t h m hci hs ⟨⟨H, told, fr, h28, hown, hH, hf, hlen⟩, h0, d, rfl⟩;have e2 := hs 2 rfl;have e5 := hs 5 rfl;have e17 := hs 17 rfl;have e18 := hs 18 rfl;clear hs;simp -dsimp -implicitDefEqProofs at e2 e5 e17 e18;rw [List.drop_length, hallOfFrom] at hf;subst hf;clear hq hlen;refine rS (aN e2 (aN e5 (aN e17 (aN e18 (aN hci (aN h28 h0)))))) ?_;obtain ⟨v', g1, g2⟩ := OwnR.out (f := ansC false) (hown.mono (h' := upd h 0 (some ⟨30, 5, [hallC fr H]⟩)) (fun i hi hn => upd_ne _ _ (by simp at hn; omega)) (Nat.le_refl _) (fun x hx => .inl hx)) (fun _ => rfl) (fun _ => rfl);refine ends_ali ?_ (.cons g1 g2 (.nil _)) rfl;exact .lst (fun h => by cases h) (.lst (fun h => by cases h) (.at (.at (.lst (fun h => by cases h) (.nil _)))))
theorem ref_SameAnswer0 (a : S.Answer) : C Tryz.prog 53 [.agg (ansC false a), .agg [Int' 0, Int' 0, .nl]] (Bool' (decide (a = S.Answer.zero))) [] := (ref_SameAnswer a S.Answer.zero).args (.cons (.refl _) (.cons sub_ans0 (.nil _)))
theorem ref_SameHall1 (a b : S.Last) : C Tryz.prog 87 [.agg (lastC false a), .agg (lastC false b)] (Bool' (decide (a = b))) [] := by
 refine CI Tryz.func87 ?_;refine rN ?_;refine guardC_C (ref_SameAnswer a.a b.a) (by first | rfl | (simp -dsimp -implicitDefEqProofs; done)) (by first | exact Or.inr (by rfl) | exact Or.inl (by rfl)) ?_;refine rN ?_;exact ends_eq (by cases a; cases b; simp)
theorem equal_lasts_ref (xs ys : List S.Last) : C Tryz.prog 86 [.lst false 4 (xs.map (lastC false)), .lst false 4 (ys.map (lastC false)), .fn 87 []] (Bool' (decide (xs = ys))) [] := by
 rw [<- eqAll_dec];exact equalFunc_lasts (fun _ => rfl) xs ys (fun x y _ _ => ref_SameHall1 x y) (fun _ _ => ⟨rfl, rfl⟩)
theorem ref_SameHall (a b : S.Hall) : C Tryz.prog 35 [.agg (hallC false a), .agg (hallC false b)] (Bool' (decide (a = b))) [] := by
 refine CI Tryz.func35 ?_;refine rC (ref_SameDesk a.d b.d) ?_;refine rN ?_;refine guardC_C (equal_lasts_ref a.last b.last) (by first | rfl | (simp -dsimp -implicitDefEqProofs; done)) (by first | exact Or.inr (by rfl) | exact Or.inl (by rfl)) ?_;refine rN ?_;exact ends_eq (by cases a; cases b; simp)
theorem sameHR_eq {a b : S.Hall} {r : Bool} (h : decide (a = b) = r) : C Tryz.prog 35 [.agg (hallC false a), .agg (hallC false b)] (Bool' r) [] := h ▸ ref_SameHall a b
end Go.Proofs.YtadmfokicjjglaaGreatDoor.E
