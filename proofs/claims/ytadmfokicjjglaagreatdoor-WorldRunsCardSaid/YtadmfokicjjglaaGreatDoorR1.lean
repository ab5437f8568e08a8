/- R1: Qa: ref.has and ref.CmdText: how the reference prints a command. Qb: ref.CmdRead: how the reference reads a command. Qc: ref.whole, ref.RecText, ref.RecRead: records as texts, as the reference prints and reads them. -/
import Derived.Test.YtadmfokicjjglaaGreatDoorEngY
import Derived.Test.YtadmfokicjjglaaGreatDoorV1
import Derived.Test.YtadmfokicjjglaaGreatDoorS1
import Derived.Test.YtadmfokicjjglaaGreatDoorSq
import Derived.Test.YtadmfokicjjglaaGreatDoorX3
import Derived.Test.YtadmfokicjjglaaGreatDoorV2
import Derived.Test.YtadmfokicjjglaaGreatDoorX4
import Derived.Test.YtadmfokicjjglaaGreatDoorD2
namespace Go.Proofs.YtadmfokicjjglaaGreatDoor.E
open Go.RowKit Go.Proofs
set_option linter.unusedVariables false
set_option linter.unusedSimpArgs false
set_option maxRecDepth 100000
set_option maxHeartbeats 4000000
theorem map_ty : mapTy Tryz.prog 190 = true := by kernel_rfl
theorem ref_hasS {k : Int} (h1 : 1 <= k) (h2 : k <= 12) : C Tryz.prog 117 [Int' k] (Tx (S.hasS k)) [] := by
 have e : ∀ K : Fin 13, S.hasS (K.val : Int) = [[122], [122], [122], [122], [122], [122, 100], [122, 97, 100], [122, 97, 110], [110], [110], [], [110], []].getD K.val [] := by decide
 obtain ⟨K, rfl⟩ : ∃ K : Nat, k = K := ⟨k.toNat, by omega⟩;rw [e ⟨K, by omega⟩];simp only;have : K = 1 \/ K = 2 \/ K = 3 \/ K = 4 \/ K = 5 \/ K = 6 \/ K = 7 \/ K = 8 \/ K = 9 \/ K = 10 \/ K = 11 \/ K = 12 := by omega
 clear h1 h2 e;rcases this with rfl | rfl | rfl | rfl | rfl | rfl | rfl | rfl | rfl | rfl | rfl | rfl
 all_goals
  refine CI Tryz.func117 ?_;refine rN ?_;exact ⟨⟨_, rfl, Sub.refl _⟩, rfl⟩
theorem has_facts {k : Int} (h1 : 1 <= k) (h2 : k <= 12) : (S.hasS k).length <= 3 /\ ∀ x, x ∈ S.hasS k -> x = 122 \/ x = 97 \/ x = 110 \/ x = 100 := by
 have e : ∀ K : Fin 13, (S.hasS (K.val : Int)).length <= 3 /\ ∀ x, x ∈ S.hasS (K.val : Int) -> x = 122 \/ x = 97 \/ x = 110 \/ x = 100 := by decide
 obtain ⟨K, rfl⟩ : ∃ K : Nat, k = K := ⟨k.toNat, by omega⟩;exact e ⟨K, by omega⟩
theorem ascii_at {hs : List UInt8} {k : Nat} {x : UInt8} (h : hs[k]? = some x) (hx : x.toNat < 128) : asciiAt ⟨hs.toArray⟩ k = some x.toNat := by
 unfold asciiAt;show ((hs.toArray.toList[k]?).bind _) = _;rw [List.toList_toArray, h];simp [hx]
theorem text_step {s r : List UInt8} {z : Int} {ns : List Int} {v : AV} {b : Nat} (h : S.withNums s (z :: ns) = r) (hv : v = Tx (s ++ 32 :: Lib.itoa z)) (hb : (s ++ 32 :: Lib.itoa z).length <= b) : TextAt v ns r b := ⟨_, hv, by rw [<- h]; rfl, hb⟩
def RoundAt (c : S.Cmd) (hs r : List UInt8) (k : Nat) (_ : Option (Nat × List (Int × AV))) (h : Heap) (m : Nat) (t : Nat -> AV) : Prop :=
 TextAt (t 3) ((hs.drop k).flatMap (S.numsAt c)) r (8 + 40 * k) /\ t 1 = .ptr 0 5 0 0 /\ t 17 = .ptr 44 1 0 0 /\ h 0 = some ⟨39, 5, [cmdC false c]⟩ /\ ∃ d, m = d + 48
theorem ref_CmdText (c : S.Cmd) (hc : S.checkCmd c = 0) : C Tryz.prog 109 [.agg (cmdC false c)] (Tx (S.cmdText c)) [] := by
 obtain ⟨k1, k12, hm, hd, hz, hp, hn, hb⟩ := S.checkCmd_ok hc;have ht := S.text_has hc;obtain ⟨r, hr⟩ : ∃ r, S.cmdText c = r := ⟨_, rfl⟩;rw [hr] at ht ⊢;have h2 := hid (ref_hasS k1 k12);obtain ⟨hl, hin⟩ := has_facts k1 k12;obtain ⟨K, hK⟩ : ∃ K : Nat, c.kind = K := ⟨c.kind.toNat, by omega⟩;obtain ⟨w, hw, hw2, hwl⟩ := word_at (K := K) (by omega);rw [hK, hw2] at ht;rw [hK] at h2 hl hin;generalize S.hasS K = hs at *;have iz := hid (itoa_call hz.1 hz.2);have ip := hid (itoa_call hp.1 hp.2);have in' := hid (itoa_call hn.1 hn.2);have lz := hid (S.itoa_facts hz.1 (by omega)).2.2.2;have lp := hid (S.itoa_facts hp.1 (by omega)).2.2.2;have ln := hid (S.itoa_facts hn.1 (by omega)).2.2.2;replace hb := hid hb;replace hd := hid hd;replace hin := hid hin;replace hl := hid hl;clear hz hp hn k1 k12 hw2 hc hr hm;replace ht := hid ht;replace hwl := hid hwl;refine C_inlineY [] [ 2, 3, 5] [] Tryz.func109 (fun _ _ => by kernel_rfl) rfl (by kernel_rfl) (by rfl) (by decide) (by rfl) (by rfl) (by first | rfl | exact plain_I _ | exact plain_map (fun _ => rfl) _) ?_;refine rC ref_words ?_;refine rD (aN hK hw) h2.out ?_;refine rN ?_;refine loopY hs.length 44 ⟨hs.toArray⟩ (RoundAt c hs r) (by rfl) ⟨⟨w, rfl, by simpa using ht.out.symm, by have := hwl.out; omega⟩, rfl, rfl, rfl, 0, rfl⟩ ?_ ?_
 ·rintro k t h m mp hk ⟨⟨s, t3, hs1, hs2⟩, t1, t17, h0, d, rfl⟩;obtain ⟨x, hx⟩ : ∃ x, hs[k]? = some x := ⟨hs[k], by simp⟩;have hk' : decide (k < hs.length) = true := by simp [hk]
  have hdr : hs.drop k = x :: hs.drop (k + 1) := drop_cons hx;have hb3 : s.length <= 200 := by have := hl.out; omega
  rw [hdr, List.flatMap_cons] at hs1;rcases hin.out x (List.mem_of_getElem? hx) with rfl | rfl | rfl | rfl
  ·have ha : asciiAt ⟨hs.toArray⟩ k = some 122 := ascii_at hx (by decide);have az : decide (1 + (Lib.itoa c.z).length <= 4000000000000000000) = true := by have := lz.out; simp; omega
   have bz : decide (s.length + ((Lib.itoa c.z).length + 1) <= 4000000000000000000) = true := by have := lz.out; simp; omega
   have hs3 : (s ++ 32 :: Lib.itoa c.z).length <= 8 + 40 * (k + 1) := by have := lz.out; simp; omega
   replace hs1 := hid (show S.withNums s (c.z :: (hs.drop (k + 1)).flatMap (S.numsAt c)) = r from hs1);replace hs3 := hid hs3;replace hk := hid hk;clear hdr hb3 hx;simp -dsimp -implicitDefEqProofs [-getElem?_pos, -List.map_append, -List.map_set, List.getElem?_cons_zero, List.getElem?_cons_succ, hk', ha, t17, t1, h0, map_ty];intro b;refine wpY_pure (by rfl) ?_;simp only [wpM_loop];refine loop_unroll 2 ?_;refine rD (aN t17 (aN t1 (aN h0 t3))) iz.out ?_;refine rS (aN t17 (aN t1 (aN h0 (aN t3 (aN az bz))))) ?_;refine nextY hk.out ⟨text_step hs1.out (by simp) hs3.out, t1, t17, h0, _, rfl⟩
  ·have ha : asciiAt ⟨hs.toArray⟩ k = some 97 := ascii_at hx (by decide);have az : decide (1 + (Lib.itoa c.pos).length <= 4000000000000000000) = true := by have := lp.out; simp; omega
   have bz : decide (s.length + ((Lib.itoa c.pos).length + 1) <= 4000000000000000000) = true := by have := lp.out; simp; omega
   have hs3 : (s ++ 32 :: Lib.itoa c.pos).length <= 8 + 40 * (k + 1) := by have := lp.out; simp; omega
   replace hs1 := hid (show S.withNums s (c.pos :: (hs.drop (k + 1)).flatMap (S.numsAt c)) = r from hs1);replace hs3 := hid hs3;replace hk := hid hk;clear hdr hb3 hx;simp -dsimp -implicitDefEqProofs [-getElem?_pos, -List.map_append, -List.map_set, List.getElem?_cons_zero, List.getElem?_cons_succ, hk', ha, t17, t1, h0, map_ty];intro b;refine wpY_pure (by rfl) ?_;simp only [wpM_loop];refine loop_unroll 2 ?_;refine rD (aN t17 (aN t1 (aN h0 t3))) ip.out ?_;refine rS (aN t17 (aN t1 (aN h0 (aN t3 (aN az bz))))) ?_;refine nextY hk.out ⟨text_step hs1.out (by simp) hs3.out, t1, t17, h0, _, rfl⟩
  ·have ha : asciiAt ⟨hs.toArray⟩ k = some 110 := ascii_at hx (by decide);have az : decide (1 + (Lib.itoa c.n).length <= 4000000000000000000) = true := by have := ln.out; simp; omega
   have bz : decide (s.length + ((Lib.itoa c.n).length + 1) <= 4000000000000000000) = true := by have := ln.out; simp; omega
   have hs3 : (s ++ 32 :: Lib.itoa c.n).length <= 8 + 40 * (k + 1) := by have := ln.out; simp; omega
   replace hs1 := hid (show S.withNums s (c.n :: (hs.drop (k + 1)).flatMap (S.numsAt c)) = r from hs1);replace hs3 := hid hs3;replace hk := hid hk;clear hdr hb3 hx;simp -dsimp -implicitDefEqProofs [-getElem?_pos, -List.map_append, -List.map_set, List.getElem?_cons_zero, List.getElem?_cons_succ, hk', ha, t17, t1, h0, map_ty];intro b;refine wpY_pure (by rfl) ?_;simp only [wpM_loop];refine loop_unroll 2 ?_;refine rD (aN t17 (aN t1 (aN h0 t3))) in'.out ?_;refine rS (aN t17 (aN t1 (aN h0 (aN t3 (aN az bz))))) ?_;refine nextY hk.out ⟨text_step hs1.out (by simp) hs3.out, t1, t17, h0, _, rfl⟩
  ·have ha : asciiAt ⟨hs.toArray⟩ k = some 100 := ascii_at hx (by decide);replace hs1 := hid (show S.withNums s (c.d ++ (hs.drop (k + 1)).flatMap (S.numsAt c)) = r from hs1);replace hk := hid hk;replace hb3 := hid hb3;replace hs2 := hid hs2;clear hdr hx;simp -dsimp -implicitDefEqProofs [-getElem?_pos, -List.map_append, -List.map_set, List.getElem?_cons_zero, List.getElem?_cons_succ, hk', ha, t17, t1, h0, map_ty];intro b;refine wpY_pure (by rfl) ?_;simp only [wpM_loop];refine loop_count 38 c.d.length (fun j h' m' t' => TextAt (t' 3) (c.d.drop j ++ (hs.drop (k + 1)).flatMap (S.numsAt c)) r (8 + 40 * k + 4 * j) /\ h' 0 = some ⟨39, 5, [cmdC false c]⟩ /\ ∃ d, m' = d + 48) _ (by rfl) (by rfl) ⟨⟨s, t3, by simpa using hs1.out, by have := hs2.out; omega⟩, by simp [h0], _, rfl⟩ ?_ ?_
   ·rintro j t' h' m' hj hci hs ⟨⟨s', t3', q1, q2⟩, h0', d', rfl⟩;have hw' : IntKind.i64.wrap ((j : Int) + 1) = (j : Int) + 1 := wrap_ok (by have := hd.out; omega);obtain ⟨x, hx⟩ : ∃ x, c.d[j]? = some x := ⟨c.d[j], by simp⟩;have hj' : decide (j < c.d.length) = true := by simp [hj]
    have hxb := hb.out x (List.mem_of_getElem? hx);have ix := hid (itoa_call hxb.1 hxb.2);have lx := (S.itoa_facts hxb.1 (by omega)).2.2.2;have ax : decide (1 + (Lib.itoa x).length <= 4000000000000000000) = true := by simp; omega
    have hb4 : s'.length <= 400 := by have := hl.out; have := hk.out; have := hd.out; omega
    have bx : decide (s'.length + ((Lib.itoa x).length + 1) <= 4000000000000000000) = true := by simp; omega
    rw [drop_cons hx, List.cons_append] at q1;replace q2 := hid (show (s' ++ 32 :: Lib.itoa x).length <= 8 + 40 * k + 4 * (j + 1) by simp; omega);replace q1 := hid q1;replace hj := hid hj;clear lx hxb hb4;have e1 := hs 1 rfl;have e17 := hs 17 rfl;have e36 := hs 36 rfl;have e37 := hs 37 rfl;clear hs;simp -dsimp -implicitDefEqProofs at e1 e17 e36 e37;refine rD (aN e1 (aN e17 (aN e36 (aN e37 (aN hci (aN hj' hx)))))) ix.out ?_;refine rS (aN e1 (aN e17 (aN e36 (aN e37 (aN hci (aN hw' (aN t3' (aN ax bx)))))))) ?_;exact ⟨text_step q1.out (by simp) q2.out, h0'⟩
   ·rintro t' h' m' hci hs ⟨⟨s', t3', q1, q2⟩, h0', d', rfl⟩;rw [List.drop_length, List.nil_append] at q1;replace q1 := hid q1;replace q2 := hid q2;have e1 := hs 1 rfl;have e17 := hs 17 rfl;have e36 := hs 36 rfl;have e37 := hs 37 rfl;clear hs;simp -dsimp -implicitDefEqProofs at e1 e17 e36 e37;refine rS (aN e1 (aN e17 (aN e36 (aN e37 hci)))) ?_;refine nextY hk.out ⟨⟨s', t3', q1.out, by have := q2.out; have := hd.out; omega⟩, (by simp [e1, t1]), (by simp [e17, t17]), h0', _, rfl⟩
 ·rintro t h m mp ⟨⟨s, t3, hs1, hs2⟩, t1, t17, h0, d, rfl⟩;rw [List.drop_length] at hs1;have e : s = r := hs1;subst e;clear hs1 ht;refine rS (aN t17 (aN t1 (aN h0 t3))) ?_;exact ⟨⟨_, rfl, Sub.refl _⟩, rfl⟩
theorem ref_CmdRead_bad (e : Int) : C Tryz.prog 179 [Int' e] (.tup [.agg [Int' 0, Int' 0, Int' 0, Int' 0, .nl], Int' e]) [] := by
 refine CI Tryz.func179 ?_;refine rN ?_;exact ⟨⟨_, rfl, Sub.refl _⟩, rfl⟩
theorem has_more {k : Int} (h1 : 1 <= k) (h2 : k <= 12) : Lib.trimSuffix (S.hasS k) [100] = S.hasN k /\ Lib.hasSuffix (S.hasS k) [100] = S.uD k /\ (S.hasN k).length <= 3 /\ ∀ x, x ∈ S.hasN k -> x = 122 \/ x = 97 \/ x = 110 := by
 have e : ∀ K : Fin 13, Lib.trimSuffix (S.hasS (K.val : Int)) [100] = S.hasN (K.val : Int) /\ Lib.hasSuffix (S.hasS (K.val : Int)) [100] = S.uD (K.val : Int) /\ (S.hasN (K.val : Int)).length <= 3 /\ ∀ x, x ∈ S.hasN (K.val : Int) -> x = 122 \/ x = 97 \/ x = 110 := by decide
 obtain ⟨K, rfl⟩ : ∃ K : Nat, k = K := ⟨k.toNat, by omega⟩;exact e ⟨K, by omega⟩
theorem ends_zero {h : Heap} {n : Nat} {c : S.Cmd} {e : Int} (hc : c = S.Cmd.zero) : Ends [] (.tup [.agg (cmdC false c), Int' e]) [] h n (.tup [.agg [Int' 0, Int' 0, Int' 0, Int' 0, .nl], Int' e]) := by
 subst hc;exact ends_ag outL rfl
def ReadAt (ts : List (List UInt8)) (b k : Nat) (h : Heap) (m : Nat) (t : Nat -> AV) : Prop :=
 ∃ rest more ns, t 6 = Tx rest /\ t 7 = Bool' more /\ rest.length <= b /\ S.LeftP 32 (ts.drop k) rest more /\ S.numsOf (ts.take k) = some ns /\ OwnN [0] m h (t 9) ns /\ (ns = [] -> t 9 = .nl) /\ h 0 = some (CmdR 0) /\ ∃ d, m = d + 76
def RowAt (hn : List UInt8) (ns : List Int) (K : Int) (dv : AV) (dd : List Int) (c : S.Cmd) (i e q b k : Nat) (_ : Option (Nat × List (Int × AV))) (h : Heap) (m : Nat) (t : Nat -> AV) : Prop :=
 (∃ z n p, h e = some ⟨39, 5, [[Int' K, Int' z, Int' n, Int' p, dv]]⟩ /\ S.setL (hn.drop k) (ns.drop k) ⟨K, z, n, p, dd⟩ = c) /\ t 104 = .ptr q 1 0 0 /\ t 15 = .ptr e 5 0 0 /\ t 9 = .own i 0 ns.length /\ t 2 = .ptr 0 5 0 0 /\ t 4 = .fn 179 [] /\ h 0 = some (CmdR 0) /\ h i = some ⟨3, 1, I ns⟩ /\ b <= m
def RowNil (K : Int) (e q b k : Nat) (_ : Option (Nat × List (Int × AV))) (h : Heap) (m : Nat) (t : Nat -> AV) : Prop :=
 h e = some (CmdR K) /\ t 104 = .ptr q 1 0 0 /\ t 15 = .ptr e 5 0 0 /\ t 2 = .ptr 0 5 0 0 /\ t 4 = .fn 179 [] /\ h 0 = some (CmdR 0) /\ b <= m
theorem checkN (K : Int) : C Tryz.prog 83 [.agg [Int' K, Int' 0, Int' 0, Int' 0, .nl]] (Int' (S.checkCmd ⟨K, 0, 0, 0, []⟩)) [] :=
 (ref_CheckCmd ⟨K, 0, 0, 0, []⟩).args (.cons (.agg (.cons (.refl _) (.cons (.refl _) (.cons (.refl _) (.cons (.refl _) (.cons .nl (.nil _))))))) (.nil _))
theorem ref_CmdRead (l : List UInt8) (hl : l.length <= 60000) : C Tryz.prog 144 [Tx l] (.tup [.agg (cmdC false (S.cmdRead l).1), Int' (S.cmdRead l).2]) [] := by
 obtain ⟨r, hr⟩ : ∃ r, S.cmdRead l = r := ⟨_, rfl⟩;rw [hr];unfold S.cmdRead at hr;have cc := strings_Cut l [32] (by omega);have hcl := S.cut_len l [32];cases hp : S.pieces 32 l with
 | nil => exact absurd hp (S.pieces_ne _ _)
 | cons w ts =>
  have hplen := S.pieces_len 32 l;have hpm := S.pieces_mem 32 l;rw [hp] at hplen hpm hr;obtain ⟨⟨u, v, b⟩, hcut⟩ : ∃ q, Lib.cut l [32] = q := ⟨_, rfl⟩;obtain ⟨rfl, hleft⟩ := S.left_cut hcut hp;rw [hcut] at cc hcl;simp only at cc hcl;have htl : ts.length <= 60000 := by simp at hplen; omega
  have hvl : v.length <= 60000 := by omega
  have hix := hid (index_texts S.words u (by decide));have hrange := S.idxOf_range u S.words;have hk12 : S.idxOf u S.words <= 12 := by have : S.words.length = 13 := rfl; omega
  rw [S.cmdWords] at hr;generalize S.idxOf u S.words = K at *;replace cc := hid cc;have hpm' : ∀ x, x ∈ ts -> x.length <= 1000000 := fun x hx => by have := hpm x (by simp [hx]); omega
  replace hpm := hid hpm';clear hcut hp hplen hcl hrange hpm';have cb := hid (ref_CmdRead_bad 1);by_cases hk : K < 1
  ·have hk' : decide (K < 1) = true := by simp [hk]
   rw [if_pos hk] at hr;subst hr;clear hleft;refine C_inlineY [] [ 19, 20] [] Tryz.func144 (fun _ _ => by kernel_rfl) rfl (by kernel_rfl) (by rfl) (by decide) (by rfl) (by rfl) (by first | rfl | exact plain_I _ | exact plain_map (fun _ => rfl) _) ?_;refine rC cc.out ?_;refine rC ref_words ?_;refine rC hix.out ?_;refine rD hk' cb.out ?_;refine rN ?_;exact ends_zero rfl
  have hk' : decide (K < 1) = false := by simp [hk]
  rw [if_neg hk] at hr;have h1 := hid (ref_hasS (k := K) (by omega) hk12);obtain ⟨g1, g2, g3, g4⟩ := has_more (k := K) (by omega) hk12;have c2 := strings_TrimSuffix (S.hasS K) [100] (by have := (has_facts (k := K) (by omega) hk12).1; omega);have c3 := strings_HasSuffix (S.hasS K) [100] (by have := (has_facts (k := K) (by omega) hk12).1; omega);rw [g1] at c2;rw [g2] at c3;replace c2 := hid c2;replace c3 := hid c3;replace hk := hid (And.intro hk hk12);replace hr := hid hr;replace htl := hid htl;clear hk12 g1 g2;refine C_inlineY [] [ 19, 20] [] Tryz.func144 (fun _ _ => by kernel_rfl) rfl (by kernel_rfl) (by rfl) (by decide) (by rfl) (by rfl) (by first | rfl | exact plain_I _ | exact plain_map (fun _ => rfl) _) ?_;refine rC cc.out ?_;refine rC ref_words ?_;refine rC hix.out ?_;refine rS hk' ?_;refine wpY_pure (by rfl) ?_;simp only [wpM_loop];refine loop_ghost ts.length (ReadAt ts 60000) _ (by rfl) ⟨v, b, [], rfl, rfl, hvl, by simpa using hleft, rfl, .inl ⟨rfl, rfl⟩, fun _ => rfl, rfl, 0, rfl⟩ ?_ ?_
  ·rintro k t h m hk hs ⟨rest, more, ns, t6, t7, hrl, hlp, hns, hown, hnl, h0, d, rfl⟩;obtain ⟨x, hx⟩ : ∃ x, ts[k]? = some x := ⟨ts[k], by simp⟩;rcases hlp with ⟨rfl, hlp⟩ | ⟨rfl, hlp⟩
   rotate_left
   ·rw [drop_cons hx] at hlp; cases hlp
   rw [drop_cons hx] at hlp;have cc' := strings_Cut rest [32] (by omega);have hcl' := S.cut_len rest [32];obtain ⟨⟨u', v', b'⟩, hcut'⟩ : ∃ q, Lib.cut rest [32] = q := ⟨_, rfl⟩;obtain ⟨rfl, hleft'⟩ := S.left_cut hcut' hlp;rw [hcut'] at cc' hcl';simp only at cc' hcl';have hvl' : v'.length <= 60000 := by omega
   have hxl := hpm.out u' (List.mem_of_getElem? hx);have ca := strconv_ParseInt u' hxl;replace cc' := hid cc';replace hleft' := hid hleft';replace hvl' := hid hvl';clear hcl' hcut' hlp hrl;have e2 := hs 2 rfl;have e4 := hs 4 rfl;clear hs;simp -dsimp -implicitDefEqProofs at e2 e4;replace hk := hid hk;rcases num_cases u' with ⟨v0, hv, hix', hnum⟩ | ⟨v0, hv, hix', hnum⟩ | ⟨hv, hnum⟩
   ·rw [numR_ok hv] at ca;obtain ⟨b0, b1⟩ := Lib.atoiAll_bounds hv;have ci := hid (strconv_FormatInt v0 b0 b1);have hnn := hid (S.numsOf_take hx hns hnum);have hlen := S.numsOf_len hns;replace ca := hid ca;clear hv hnum hns hxl;have hlen2 : ns.length <= 60000 := by simp at hlen; have := htl.out; have := hk.out; omega
    clear hlen;rcases hown with ⟨t9, rfl⟩ | ⟨i, t9, hno, his, hi⟩
    ·clear hlen2;refine rD (aN e2 (aN e4 (aN t6 t7))) cc'.out ?_;refine rD (aN e2 e4) ca.out ?_;refine rD (aN e2 e4) ci.out ?_;refine rS (aN e2 (aN e4 (aN hix' t9))) ?_;exact ⟨v', b', [v0], rfl, rfl, hvl'.out, hleft'.out, hnn.out, .inr ⟨_, rfl, by simp, by omega, by simp -dsimp -implicitDefEqProofs [I]⟩, fun e => (by cases e), by simp -dsimp -implicitDefEqProofs [h0], _, rfl⟩
    ·have n0 : ¬ i = 0 := fun e => hno (by simp [e])
     have n0' : ¬ 0 = i := fun e => hno (by simp [e])
     have hz : decide (ns.length <= 100000000) = true := by simp; omega
     replace hlen2 := hid hlen2;refine rD (aN e2 (aN e4 (aN t6 t7))) cc'.out ?_;refine rD (aN e2 e4) ca.out ?_;refine rD (aN e2 e4) ci.out ?_;refine rS (aN e2 (aN e4 (aN hix' (aN t9 (aN hi (aN hz (aN n0 (aN n0' (apA his))))))))) ?_;exact ⟨v', b', ns ++ [v0], rfl, rfl, hvl'.out, hleft'.out, hnn.out, .inr ⟨d + 76 + 4 + 4 + 36 + 28 + 32 + 12, by simp, by simp, by omega, by simp -dsimp -implicitDefEqProofs [I]⟩, fun e => (by simp at e), by simp -dsimp -implicitDefEqProofs [h0, n0'], _, rfl⟩
   ·rw [numR_ok hv] at ca;obtain ⟨b0, b1⟩ := Lib.atoiAll_bounds hv;have ci := hid (strconv_FormatInt v0 b0 b1);have hrn := hr.out;rw [S.numsOf_bad hx hnum] at hrn;have hrn' : r = (S.Cmd.zero, 1) := hrn.symm;subst hrn';replace ca := hid ca;clear hv hnum hns hxl hown hrn;refine rD (aN e2 (aN e4 (aN t6 t7))) cc'.out ?_;refine rD (aN e2 e4) ca.out ?_;refine rD (aN e2 e4) ci.out ?_;refine rD (aN e2 (aN e4 (aN hix' h0))) cb.out ?_;refine rS (aN e2 (aN e4 h0)) ?_;exact ends_zero rfl
   ·obtain ⟨v0, hv'⟩ := numR_bad hv;rw [hv'] at ca;have hrn := hr.out;rw [S.numsOf_bad hx hnum] at hrn;have hrn' : r = (S.Cmd.zero, 1) := hrn.symm;subst hrn';replace ca := hid ca;clear hv hnum hns hxl hown hrn hv';refine rD (aN e2 (aN e4 (aN t6 t7))) cc'.out ?_;refine rD (aN e2 e4) ca.out ?_;refine rD (aN e2 (aN e4 h0)) cb.out ?_;refine rS (aN e2 (aN e4 h0)) ?_;exact ends_zero rfl
  ·rintro t h m hs ⟨rest, more, ns, t6, t7, hrl, hlp, hns, hown, hnl, h0, d, rfl⟩;rw [List.drop_length] at hlp;rw [List.take_length] at hns;rcases hlp with ⟨-, hlp⟩ | ⟨rfl, -⟩
   ·exact absurd hlp (S.pieces_ne _ _)
   have e2 := hs 2 rfl;have e4 := hs 4 rfl;have e8 := hs 8 rfl;clear hs;simp -dsimp -implicitDefEqProofs at e2 e4 e8;have hr2 := hr.out;rw [hns] at hr2;simp only at hr2;rw [<- S.readOf_eq (by have := hk.out; omega) hk.out.2] at hr2;have hlen := S.numsOf_len hns;have tk : (S.hasS K).take (S.hasN K).length = S.hasN K := by unfold S.hasS; exact List.take_left
   have hle : (S.hasN K).length <= (S.hasS K).length := by unfold S.hasS; simp
   unfold S.readOf S.misfit at hr2;replace hpm := 0;clear hr hns hrl t6 hpm;generalize S.hasS K = hs at *;generalize S.hasN K = hn at *;generalize S.uD K = b4 at *;rcases hown with ⟨t9, rfl⟩ | ⟨i, t9, hno, his, hi⟩
   ·cases hn with
    | cons x hn =>
     simp at hr2;obtain rfl : r = (S.Cmd.zero, 1) := hr2.symm;refine rD (aN e2 (aN e4 (aN e8 t7))) h1.out ?_;refine rD (aN e2 (aN e4 (aN e8 t7))) c2.out ?_;simp -dsimp -implicitDefEqProofs [-getElem?_pos, -List.map_append, -List.map_set, List.getElem?_cons_zero, List.getElem?_cons_succ, e2, e4, e8, t9, gt1 hn.length];refine call_CC (cb.out) ?_;refine rS (aN e2 (aN e4 (aN e8 h0))) ?_;exact ends_zero rfl
    | nil =>
     cases b4 with
     | true =>
      simp at hr2;obtain rfl : r = (S.Cmd.zero, 1) := hr2.symm;refine rD (aN e2 (aN e4 (aN e8 t7))) h1.out ?_;refine rD (aN e2 (aN e4 (aN e8 t7))) c2.out ?_;refine rD (aN e2 (aN e4 (aN e8 t9))) c3.out ?_;refine rD (aN e2 (aN e4 (aN e8 t9))) cb.out ?_;refine rS (aN e2 (aN e4 (aN e8 h0))) ?_;exact ends_zero rfl
     | false =>
      simp [S.setL] at hr2;replace hr2 := hid hr2;refine rD (aN e2 (aN e4 (aN e8 t7))) h1.out ?_;refine rD (aN e2 (aN e4 (aN e8 t7))) c2.out ?_;refine rD (aN e2 (aN e4 (aN e8 t9))) c3.out ?_;refine rS (aN e2 (aN e4 (aN e8 t9))) ?_;refine loopY 0 (d + 76 + 4 + 12 + 16 + 100 + 28 + 12) _ (RowNil K (d + 76 + 4 + 12 + 16 + 100 + 20) (d + 76 + 4 + 12 + 16 + 100 + 28 + 12) (d + 76)) (by rfl) ?_ ?_ ?_
      ·exact ⟨by simp -dsimp -implicitDefEqProofs, by simp -dsimp -implicitDefEqProofs, by simp -dsimp -implicitDefEqProofs, by simp -dsimp -implicitDefEqProofs [e2], by simp -dsimp -implicitDefEqProofs [e4], by simp -dsimp -implicitDefEqProofs [h0], by first | omega | (dsimp only; omega)⟩
      ·rintro k t h m mp hkk;exact absurd hkk (by omega)
      ·rintro t h m mp ⟨he, t104, t15, t2, t4, h0, hb⟩;have ck := checkN K;obtain ⟨e, he2⟩ : ∃ e, S.checkCmd ⟨K, 0, 0, 0, []⟩ = e := ⟨_, rfl⟩;rw [he2] at ck;have hr4 := hr2.out;rw [he2] at hr4;clear he2 hr2;replace ck := hid ck;have ne2 : ¬ 0 = (d + 76 + 4 + 12 + 16 + 100 + 20) := by omega
       have ne4 : ¬ (d + 76 + 4 + 12 + 16 + 100 + 20) = 0 := by omega
       refine rD (aN t104 (aN t15 (aN t2 (aN t4 he)))) ck.out ?_;by_cases hz : e = 0
       ·subst hz;simp at hr4;subst hr4;refine rS (aN t104 (aN t15 (aN t2 (aN t4 (aN he (aN h0 (aN ne2 ne4))))))) ?_;exact ends_ag outL rfl
       ·have hz' : decide (e = 0) = false := by simp [hz]
        simp [hz] at hr4;subst hr4;have cb2 := hid (ref_CmdRead_bad e);refine rD (aN t104 (aN t15 (aN t2 (aN t4 (aN he (aN h0 (aN hz' (aN ne2 ne4)))))))) cb2.out ?_;refine rS (aN t104 (aN t15 (aN t2 (aN t4 (aN he (aN h0 (aN ne2 ne4))))))) ?_;exact ends_zero rfl
   ·rcases Nat.lt_trichotomy ns.length hn.length with hlt | heq | hgt
    ·have d1 : decide (ns.length < hn.length) = true := by simp [hlt]
     rw [d1] at hr2;simp at hr2;obtain rfl : r = (S.Cmd.zero, 1) := hr2.symm;refine rD (aN e2 (aN e4 (aN e8 t7))) h1.out ?_;refine rD (aN e2 (aN e4 (aN e8 t7))) c2.out ?_;refine rD (aN e2 (aN e4 (aN e8 (aN t9 d1)))) cb.out ?_;refine rS (aN e2 (aN e4 (aN e8 h0))) ?_;exact ends_zero rfl
    ·have d1 : decide (ns.length < hn.length) = false := by simp; omega
     have d2 : decide (ns.length = hn.length) = true := by simp; omega
     have d3 : decide (hn.length < ns.length) = false := by simp; omega
     have d4 : decide ((ns.length : Int) = (hn.length : Int)) = true := by simp; omega
     have hpos : ns ≠ [] := fun e => by have := hnl e; rw [t9] at this; cases this
     have hpos2 : 0 < ns.length := List.length_pos_iff.2 hpos;have hd0 : ns.drop hn.length = [] := List.drop_eq_nil_of_le (by omega);rw [d1, d2, d3, hd0] at hr2;cases b4 with
     | true =>
      simp at hr2;obtain rfl : r = (S.Cmd.zero, 1) := hr2.symm;refine rD (aN e2 (aN e4 (aN e8 t7))) h1.out ?_;refine rD (aN e2 (aN e4 (aN e8 t7))) c2.out ?_;refine rD (aN e2 (aN e4 (aN e8 (aN t9 (aN d1 (aN d2 (aN d3 d4))))))) c3.out ?_;refine rD (aN e2 (aN e4 (aN e8 (aN t9 (aN d1 (aN d2 (aN d3 d4))))))) cb.out ?_;refine rS (aN e2 (aN e4 (aN e8 h0))) ?_;exact ends_zero rfl
     | false =>
      simp only [Bool.false_or, Bool.false_and, Bool.true_and, Bool.and_false, Bool.or_false, Bool.not_true, Bool.false_eq_true, if_false] at hr2;replace hr2 := hid hr2;have l1 : hn.length <= ns.length := by omega
      have l2 : (hn.length = ns.length) = True := eq_true (by omega);have l3 : (0 < hn.length) = True := eq_true (by omega);have l4 : (hn = []) = False := eq_false (fun e => by subst e; simp at heq; exact hpos heq);refine rD (aN e2 (aN e4 (aN e8 t7))) h1.out ?_;refine rD (aN e2 (aN e4 (aN e8 t7))) c2.out ?_;refine rD (aN e2 (aN e4 (aN e8 (aN t9 (aN d1 (aN d2 (aN d3 d4))))))) c3.out ?_;refine rS (aN e2 (aN e4 (aN e8 (aN t9 (aN d1 (aN d2 (aN d3 (aN d4 (aN hi (aN l1 (aN l2 (aN l3 (aN l4 (aN hle tk)))))))))))))) ?_;obtain ⟨cf, hcf⟩ : ∃ c, S.setL hn ns ⟨K, 0, 0, 0, []⟩ = c := ⟨_, rfl⟩;have hr3 := hr2.out;rw [hcf] at hr3;try simp only at hr3
      replace hr3 := hid hr3;replace hcf := hid hcf;clear hr2;refine loopY hn.length (d + 76 + 4 + 12 + 16 + 100 + 28 + 12) ⟨hn.toArray⟩ (RowAt hn ns K (.lst true 1 []) [] cf i (d + 76 + 4 + 12 + 16 + 100 + 20) (d + 76 + 4 + 12 + 16 + 100 + 28 + 12) (d + 76)) (by rfl) ?_ ?_ ?_
      ·exact ⟨⟨0, 0, 0, by simp -dsimp -implicitDefEqProofs, by simpa using hcf.out⟩, by simp -dsimp -implicitDefEqProofs, by simp -dsimp -implicitDefEqProofs, by simp -dsimp -implicitDefEqProofs [t9], by simp -dsimp -implicitDefEqProofs [e2], by simp -dsimp -implicitDefEqProofs [e4], by simp -dsimp -implicitDefEqProofs [h0], by simp -dsimp -implicitDefEqProofs [hi, apA his], by first | omega | (dsimp only; omega)⟩
      ·rintro k t h m mp hkk ⟨⟨z, n, p, he, hset⟩, t104, t15, t9, t2, t4, h0, hi, hb⟩;obtain ⟨x, hx⟩ : ∃ x, hn[k]? = some x := ⟨hn[k], by simp⟩;obtain ⟨v0, hv⟩ : ∃ v, ns[k]? = some v := ⟨ns[k]'(by omega), by simp⟩;have hk' : decide (k < hn.length) = true := by simp [hkk]
       have hk2 : decide (k < ns.length) = true := by simp; omega
       have hk3 : k < ns.length := by omega
       have ne1 : ¬ i = (d + 76 + 4 + 12 + 16 + 100 + 20) := by omega
       have ne2 : ¬ 0 = (d + 76 + 4 + 12 + 16 + 100 + 20) := by omega
       have ne3 : ¬ (d + 76 + 4 + 12 + 16 + 100 + 20) = i := by omega
       have ne4 : ¬ (d + 76 + 4 + 12 + 16 + 100 + 20) = 0 := by omega
       rw [drop_cons hx, drop_cons hv, S.setL] at hset;replace hkk := hid hkk;rcases g4 x (List.mem_of_getElem? hx) with rfl | rfl | rfl
       ·have ha : asciiAt ⟨hn.toArray⟩ k = some 122 := ascii_at hx (by decide);replace hset := hid hset;refine rS (aN hk' (aN ha (aN t104 (aN t15 (aN t9 (aN t2 (aN t4 (aN hi (aN he (aN hv (aN hk2 (aN hk3 (aN ne1 (aN ne2 (aN ne3 ne4))))))))))))))) ?_;exact nextY hkk.out ⟨⟨v0, n, p, by simp -dsimp -implicitDefEqProofs, hset.out⟩, t104, t15, t9, t2, t4, by simp -dsimp -implicitDefEqProofs [h0, ne2], by simp -dsimp -implicitDefEqProofs [hi, ne1], by first | omega | (dsimp only; omega)⟩
       ·have ha : asciiAt ⟨hn.toArray⟩ k = some 97 := ascii_at hx (by decide);replace hset := hid hset;refine rS (aN hk' (aN ha (aN t104 (aN t15 (aN t9 (aN t2 (aN t4 (aN hi (aN he (aN hv (aN hk2 (aN hk3 (aN ne1 (aN ne2 (aN ne3 ne4))))))))))))))) ?_;exact nextY hkk.out ⟨⟨z, n, v0, by simp -dsimp -implicitDefEqProofs, hset.out⟩, t104, t15, t9, t2, t4, by simp -dsimp -implicitDefEqProofs [h0, ne2], by simp -dsimp -implicitDefEqProofs [hi, ne1], by first | omega | (dsimp only; omega)⟩
       ·have ha : asciiAt ⟨hn.toArray⟩ k = some 110 := ascii_at hx (by decide);replace hset := hid hset;refine rS (aN hk' (aN ha (aN t104 (aN t15 (aN t9 (aN t2 (aN t4 (aN hi (aN he (aN hv (aN hk2 (aN hk3 (aN ne1 (aN ne2 (aN ne3 ne4))))))))))))))) ?_;exact nextY hkk.out ⟨⟨z, v0, p, by simp -dsimp -implicitDefEqProofs, hset.out⟩, t104, t15, t9, t2, t4, by simp -dsimp -implicitDefEqProofs [h0, ne2], by simp -dsimp -implicitDefEqProofs [hi, ne1], by first | omega | (dsimp only; omega)⟩
      ·rintro t h m mp ⟨⟨z, n, p, he, hset⟩, t104, t15, t9, t2, t4, h0, hi, hb⟩;rw [List.drop_length] at hset;have hset' : cf = ⟨K, z, n, p, []⟩ := hset.symm;have ck := ref_CheckCmd cf;obtain ⟨e, he2⟩ : ∃ e, S.checkCmd cf = e := ⟨_, rfl⟩;rw [he2] at ck;have hr4 := hr3.out;rw [he2] at hr4;subst hset';clear hset he2 hr3;replace ck := hid ck;have ne1 : ¬ i = (d + 76 + 4 + 12 + 16 + 100 + 20) := by omega
       have ne2 : ¬ 0 = (d + 76 + 4 + 12 + 16 + 100 + 20) := by omega
       have ne3 : ¬ (d + 76 + 4 + 12 + 16 + 100 + 20) = i := by omega
       have ne4 : ¬ (d + 76 + 4 + 12 + 16 + 100 + 20) = 0 := by omega
       refine rD (aN t104 (aN t15 (aN t9 (aN t2 (aN t4 he))))) ck.out ?_;by_cases hz : e = 0
       ·subst hz;rw [if_neg (by simp)] at hr4;subst hr4;refine rS (aN t104 (aN t15 (aN t9 (aN t2 (aN t4 (aN he (aN h0 (aN ne2 ne4)))))))) ?_;exact ends_ag outL rfl
       ·have hz' : decide (e = 0) = false := by simp [hz]
        rw [if_pos hz] at hr4;subst hr4;have cb2 := hid (ref_CmdRead_bad e);refine rD (aN t104 (aN t15 (aN t9 (aN t2 (aN t4 (aN he (aN h0 (aN hz' (aN ne2 ne4))))))))) cb2.out ?_;refine rS (aN t104 (aN t15 (aN t9 (aN t2 (aN t4 (aN he (aN h0 (aN ne2 ne4)))))))) ?_;exact ends_zero rfl
    ·have d1 : decide (ns.length < hn.length) = false := by simp; omega
     have d2 : decide (ns.length = hn.length) = false := by simp; omega
     have d3 : decide (hn.length < ns.length) = true := by simp; omega
     have d4 : decide ((ns.length : Int) = (hn.length : Int)) = false := by simp; omega
     rw [d1, d2, d3] at hr2;cases b4 with
     | false =>
      simp at hr2;obtain rfl : r = (S.Cmd.zero, 1) := hr2.symm;refine rD (aN e2 (aN e4 (aN e8 t7))) h1.out ?_;refine rD (aN e2 (aN e4 (aN e8 t7))) c2.out ?_;refine rD (aN e2 (aN e4 (aN e8 (aN t9 (aN d1 (aN d2 (aN d3 d4))))))) c3.out ?_;refine rD (aN e2 (aN e4 (aN e8 (aN t9 (aN d1 (aN d2 (aN d3 d4))))))) cb.out ?_;refine rS (aN e2 (aN e4 (aN e8 h0))) ?_;exact ends_zero rfl
     | true =>
      simp only [Bool.false_or, Bool.false_and, Bool.true_and, Bool.not_true, Bool.false_eq_true, if_false] at hr2;replace hr2 := hid hr2;have l1 : hn.length <= ns.length := by omega
      have l2 : ¬ hn.length = ns.length := by omega
      refine rD (aN e2 (aN e4 (aN e8 t7))) h1.out ?_;refine rD (aN e2 (aN e4 (aN e8 t7))) c2.out ?_;refine rD (aN e2 (aN e4 (aN e8 (aN t9 (aN d1 (aN d2 (aN d3 d4))))))) c3.out ?_;refine rS (aN e2 (aN e4 (aN e8 (aN t9 (aN d1 (aN d2 (aN d3 (aN d4 (aN hi (aN l1 (aN l2 (aN hle tk)))))))))))) ?_;obtain ⟨cf, hcf⟩ : ∃ c, S.setL hn ns ⟨K, 0, 0, 0, (ns.drop hn.length)⟩ = c := ⟨_, rfl⟩;have hr3 := hr2.out;rw [hcf] at hr3;try simp only at hr3
      replace hr3 := hid hr3;replace hcf := hid hcf;clear hr2;refine loopY hn.length (d + 76 + 4 + 12 + 16 + 100 + 28 + 12) ⟨hn.toArray⟩ (RowAt hn ns K (.own i hn.length (ns.length - hn.length)) (ns.drop hn.length) cf i (d + 76 + 4 + 12 + 16 + 100 + 20) (d + 76 + 4 + 12 + 16 + 100 + 28 + 12) (d + 76)) (by rfl) ?_ ?_ ?_
      ·exact ⟨⟨0, 0, 0, by simp -dsimp -implicitDefEqProofs, by simpa using hcf.out⟩, by simp -dsimp -implicitDefEqProofs, by simp -dsimp -implicitDefEqProofs, by simp -dsimp -implicitDefEqProofs [t9], by simp -dsimp -implicitDefEqProofs [e2], by simp -dsimp -implicitDefEqProofs [e4], by simp -dsimp -implicitDefEqProofs [h0], by simp -dsimp -implicitDefEqProofs [hi, apA his], by first | omega | (dsimp only; omega)⟩
      ·rintro k t h m mp hkk ⟨⟨z, n, p, he, hset⟩, t104, t15, t9, t2, t4, h0, hi, hb⟩;obtain ⟨x, hx⟩ : ∃ x, hn[k]? = some x := ⟨hn[k], by simp⟩;obtain ⟨v0, hv⟩ : ∃ v, ns[k]? = some v := ⟨ns[k]'(by omega), by simp⟩;have hk' : decide (k < hn.length) = true := by simp [hkk]
       have hk2 : decide (k < ns.length) = true := by simp; omega
       have hk3 : k < ns.length := by omega
       have ne1 : ¬ i = (d + 76 + 4 + 12 + 16 + 100 + 20) := by omega
       have ne2 : ¬ 0 = (d + 76 + 4 + 12 + 16 + 100 + 20) := by omega
       have ne3 : ¬ (d + 76 + 4 + 12 + 16 + 100 + 20) = i := by omega
       have ne4 : ¬ (d + 76 + 4 + 12 + 16 + 100 + 20) = 0 := by omega
       rw [drop_cons hx, drop_cons hv, S.setL] at hset;replace hkk := hid hkk;rcases g4 x (List.mem_of_getElem? hx) with rfl | rfl | rfl
       ·have ha : asciiAt ⟨hn.toArray⟩ k = some 122 := ascii_at hx (by decide);replace hset := hid hset;refine rS (aN hk' (aN ha (aN t104 (aN t15 (aN t9 (aN t2 (aN t4 (aN hi (aN he (aN hv (aN hk2 (aN hk3 (aN ne1 (aN ne2 (aN ne3 ne4))))))))))))))) ?_;exact nextY hkk.out ⟨⟨v0, n, p, by simp -dsimp -implicitDefEqProofs, hset.out⟩, t104, t15, t9, t2, t4, by simp -dsimp -implicitDefEqProofs [h0, ne2], by simp -dsimp -implicitDefEqProofs [hi, ne1], by first | omega | (dsimp only; omega)⟩
       ·have ha : asciiAt ⟨hn.toArray⟩ k = some 97 := ascii_at hx (by decide);replace hset := hid hset;refine rS (aN hk' (aN ha (aN t104 (aN t15 (aN t9 (aN t2 (aN t4 (aN hi (aN he (aN hv (aN hk2 (aN hk3 (aN ne1 (aN ne2 (aN ne3 ne4))))))))))))))) ?_;exact nextY hkk.out ⟨⟨z, n, v0, by simp -dsimp -implicitDefEqProofs, hset.out⟩, t104, t15, t9, t2, t4, by simp -dsimp -implicitDefEqProofs [h0, ne2], by simp -dsimp -implicitDefEqProofs [hi, ne1], by first | omega | (dsimp only; omega)⟩
       ·have ha : asciiAt ⟨hn.toArray⟩ k = some 110 := ascii_at hx (by decide);replace hset := hid hset;refine rS (aN hk' (aN ha (aN t104 (aN t15 (aN t9 (aN t2 (aN t4 (aN hi (aN he (aN hv (aN hk2 (aN hk3 (aN ne1 (aN ne2 (aN ne3 ne4))))))))))))))) ?_;exact nextY hkk.out ⟨⟨z, v0, p, by simp -dsimp -implicitDefEqProofs, hset.out⟩, t104, t15, t9, t2, t4, by simp -dsimp -implicitDefEqProofs [h0, ne2], by simp -dsimp -implicitDefEqProofs [hi, ne1], by first | omega | (dsimp only; omega)⟩
      ·rintro t h m mp ⟨⟨z, n, p, he, hset⟩, t104, t15, t9, t2, t4, h0, hi, hb⟩;rw [List.drop_length] at hset;have hset' : cf = ⟨K, z, n, p, (ns.drop hn.length)⟩ := hset.symm;have ck := ref_CheckCmd cf;obtain ⟨e, he2⟩ : ∃ e, S.checkCmd cf = e := ⟨_, rfl⟩;rw [he2] at ck;have hr4 := hr3.out;rw [he2] at hr4;subst hset';clear hset he2 hr3;replace ck := hid ck;have ne1 : ¬ i = (d + 76 + 4 + 12 + 16 + 100 + 20) := by omega
       have ne2 : ¬ 0 = (d + 76 + 4 + 12 + 16 + 100 + 20) := by omega
       have ne3 : ¬ (d + 76 + 4 + 12 + 16 + 100 + 20) = i := by omega
       have ne4 : ¬ (d + 76 + 4 + 12 + 16 + 100 + 20) = 0 := by omega
       refine rS (aN t104 (aN t15 (aN t9 (aN t2 (aN t4 he))))) ?_;refine call_C ck.out (view_cmdN hi (by omega)) (Or.inl ⟨rfl, rfl⟩) (Nat.le_of_ble_eq_true rfl) ?_;by_cases hz : e = 0
       ·subst hz;rw [if_neg (by simp)] at hr4;subst hr4;refine rS (aN t104 (aN t15 (aN t9 (aN t2 (aN t4 (aN he (aN h0 (aN ne2 ne4)))))))) ?_;exact ends_ag (.at (.at (.at (.at (.endN (ty := 3) (o := hn.length) (ns := ns) (by simp -dsimp -implicitDefEqProofs [hi, ne1, ne3, show ¬ i = 0 from fun e => hno (by simp [e])]) (by omega) (.nil _)))))) rfl
       ·have hz' : decide (e = 0) = false := by simp [hz]
        rw [if_pos hz] at hr4;subst hr4;have cb2 := hid (ref_CmdRead_bad e);refine rD (aN t104 (aN t15 (aN t9 (aN t2 (aN t4 (aN he (aN h0 (aN hz' (aN ne2 ne4))))))))) cb2.out ?_;refine rS (aN t104 (aN t15 (aN t9 (aN t2 (aN t4 (aN he (aN h0 (aN ne2 ne4)))))))) ?_;exact ends_zero rfl
theorem ref_whole (l : List UInt8) (hl : l.length <= 1000000) : C Tryz.prog 143 [Tx l] (.tup [Int' (S.numP l).1, Bool' (S.numP l).2]) [] := by
 have ca := strconv_ParseInt l hl;unfold S.numP;unfold numR at ca;cases hv : Lib.atoiAll l with
 | ok v =>
  rw [hv] at ca;simp only at ca ⊢;obtain ⟨b0, b1⟩ := Lib.atoiAll_bounds hv;have ci := hid (strconv_FormatInt v b0 b1);obtain ⟨b, hb⟩ : ∃ b, decide (Lib.itoa v = l) = b := ⟨_, rfl⟩;rw [hb];clear hv hl;replace ca := hid ca;refine CI Tryz.func143 ?_;refine rC ca.out ?_;refine rC ci.out ?_;refine rS hb ?_;exact ends_ib rfl rfl
 | range =>
  rw [hv] at ca;simp only at ca ⊢;replace ca := hid ca;clear hv;refine CI Tryz.func143 ?_;refine rC ca.out ?_;refine rN ?_;exact ends_ib rfl rfl
 | _ =>
  rw [hv] at ca;simp only at ca ⊢;replace ca := hid ca;clear hv;refine CI Tryz.func143 ?_;refine rC ca.out ?_;refine rN ?_;exact ends_ib rfl rfl
theorem ref_RecText (r : S.Rec) : C Tryz.prog 72 [.agg (recC false r)] (.tup [Tx (S.recPrint r).1, Int' (S.recPrint r).2]) [] := by
 have h0 := ref_CheckRec r;unfold S.recPrint;by_cases h : S.checkRec r = 0
 ·rw [if_neg (by simp [h])];obtain ⟨hw, hs, hc⟩ := S.checkRec_ok h;rw [h] at h0;have h1 := ref_CmdText r.c hc;have l1 := (S.itoa_facts (n := r.who) hw.1 (by omega)).2.2.2;have l2 := (S.itoa_facts (n := r.seq) (by omega) (by omega)).2.2.2;have l3 := S.cmdText_len hc;have i1 := hid (itoa_call (n := r.who) (by omega) (by omega));have i2 := hid (itoa_call (n := r.seq) (by omega) (by omega));unfold S.recText;obtain ⟨w, s, c⟩ := r;simp only at *;generalize Lib.itoa w = a at *;generalize Lib.itoa s = b at *;generalize S.cmdText c = t at *;have f0 : decide (a.length <= 3999999999999999999) = true := by simp; omega
  have f2 : decide (a.length + 1 + b.length <= 4000000000000000000) = true := by simp; omega
  have f3 : decide (a.length + (b.length + 1) <= 4000000000000000000) = true := by simp; omega
  have f4 : decide (a.length + (b.length + 1) <= 3999999999999999998) = true := by simp; omega
  have f5 : decide (a.length + (b.length + 2 + 1) + t.length <= 4000000000000000000) = true := by simp; omega
  replace h0 := hid h0;replace h1 := hid h1;clear h hw hs hc l1 l2 l3;refine CI Tryz.func72 ?_;refine rC h0.out ?_;refine rC i1.out ?_;refine rD f0 i2.out ?_;refine rD (aN f2 (aN f3 (aN f4 f5))) h1.out ?_;refine rS (aN f2 (aN f3 (aN f4 f5))) ?_;exact ends_ti rfl rfl
 ·rw [if_pos h];generalize S.checkRec r = e at *;have he : decide (e = 0) = false := by simp [h]
  replace h0 := hid h0;refine CI Tryz.func72 ?_;refine rC h0.out ?_;refine rS he ?_;exact ends_ti rfl rfl
theorem ref_RecRead (l : List UInt8) (hl : l.length <= 60000) : C Tryz.prog 108 [Tx l] (.tup [.agg (recC false (S.recParse l).1), Int' (S.recParse l).2]) [] := by
 unfold S.recParse;rw [if_neg (by omega)];have c1 := strings_Index l [58, 32] (by omega);rcases S.cut_at (l := l) (sep := [58, 32]) (by decide) with ⟨h1, h2⟩ | ⟨K, h1, hK, h2⟩
 ·rw [h1] at c1;rw [h2, if_pos (by simp)];replace c1 := hid c1;clear h1 h2;refine CI Tryz.func108 ?_;refine rC c1.out ?_;refine rN ?_;exact ends_ag outL rfl
 ·rw [h1] at c1;rw [h2];simp only [List.length_cons, List.length_nil] at hK ⊢;have c2 := strings_IndexByte (l.take K) 32;have e32 : (32 : Int).toNat.toUInt8 = 32 := rfl;rw [e32, S.indexByte_one] at c2;rw [S.cut_one];have n1 : ((K : Int) < 0) = False := eq_false (by omega);have n1' : decide ((K : Int) < 0) = false := by simp <;> omega
  have k1 : K <= l.length := by omega
  replace c1 := hid c1;clear h1 h2;cases hc : S.cut1 32 (l.take K) with
  | none =>
   rw [hc] at c2;simp only at c2 ⊢;rw [if_pos (by simp)];replace c2 := hid c2;clear hc;refine CI Tryz.func108 ?_;refine rC c1.out ?_;refine rD (aN n1 (aN n1' k1)) c2.out ?_;refine rN ?_;exact ends_ag outL rfl
  | some p =>
   obtain ⟨a, b⟩ := p;obtain ⟨hab, -⟩ := S.cut1_some hc;rw [hc] at c2;simp only at c2 ⊢;have hlen := congrArg List.length hab;simp at hlen
   have ha : l.take a.length = a := by
    have h3 : (l.take K).take a.length = a := by rw [hab]; simp
    rw [List.take_take] at h3;rw [show min a.length K = a.length by omega] at h3;exact h3
   have hb : (l.take K).drop (a.length + 1) = b := by rw [hab]; simp
   have n2 : ((a.length : Int) < 0) = False := eq_false (by omega);have n2' : decide ((a.length : Int) < 0) = false := by simp <;> omega
   have k2 : a.length <= l.length := by omega
   have k3 : a.length + 1 <= K := by omega
   have k4 : K + 2 <= l.length := by omega
   have w1 : IntKind.i64.wrap ((a.length : Int) + 1) = (a.length : Int) + 1 := wrap_ok (by omega);have w2 : IntKind.i64.wrap ((K : Int) + 2) = (K : Int) + 2 := wrap_ok (by omega);have z1 : ((a.length : Int) + 1).toNat = a.length + 1 := by omega
   have z2 : ((K : Int) + 2).toNat = K + 2 := by omega
   have y1 : (0 <= (a.length : Int) + 1) = True := eq_true (by omega);have y2 : (0 <= (K : Int) + 2) = True := eq_true (by omega);have c3 := ref_whole a (by omega);have c4 := ref_whole b (by omega);obtain ⟨⟨m, s⟩, h3⟩ : ∃ p, S.numP a = p := ⟨_, rfl⟩;obtain ⟨⟨n, t⟩, h4⟩ : ∃ p, S.numP b = p := ⟨_, rfl⟩;rw [h3] at c3 ⊢;rw [h4] at c4 ⊢;simp only at c3 c4 ⊢;have hyl : (l.drop (K + 2)).length <= 60000 := by simp; omega
   have c5 := ref_CmdRead (l.drop (K + 2)) hyl;unfold S.recOf;rw [S.cmdParse_read hyl];obtain ⟨⟨c, e⟩, h5⟩ : ∃ p, S.cmdRead (l.drop (K + 2)) = p := ⟨_, rfl⟩;rw [h5] at c5 ⊢;simp only at c5 ⊢;have c6 := ref_CheckRec ⟨m, n, c⟩;obtain ⟨f, hf⟩ : ∃ f, S.checkRec ⟨m, n, c⟩ = f := ⟨_, rfl⟩;rw [hf] at c6 ⊢;replace c2 := hid c2;replace c3 := hid c3;replace c4 := hid c4;replace c5 := hid c5;replace c6 := hid c6;clear hc hab hlen h3 h4 h5 hf hyl hK hl;cases s with
   | false =>
    rw [if_pos (by simp)];refine CI Tryz.func108 ?_;refine rC c1.out ?_;refine rD (aN n1 (aN n1' k1)) c2.out ?_;refine rD (aN n2 (aN n2' (aN k2 ha))) c3.out ?_;refine rD (aN w1 (aN z1 (aN y1 (aN k1 (aN k3 hb))))) c4.out ?_;refine rN ?_;exact ends_ag outL rfl
   | true =>
    cases t with
    | false =>
     rw [if_pos (by simp)];refine CI Tryz.func108 ?_;refine rC c1.out ?_;refine rD (aN n1 (aN n1' k1)) c2.out ?_;refine rD (aN n2 (aN n2' (aN k2 ha))) c3.out ?_;refine rD (aN w1 (aN z1 (aN y1 (aN k1 (aN k3 hb))))) c4.out ?_;refine rN ?_;exact ends_ag outL rfl
    | true =>
     rw [if_neg (by simp)];by_cases he : e = 0
     ·subst he;rw [if_neg (by simp)];by_cases hf : f = 0
      ·subst hf;rw [if_neg (by simp)];refine CI Tryz.func108 ?_;refine rC c1.out ?_;refine rD (aN n1 (aN n1' k1)) c2.out ?_;refine rD (aN n2 (aN n2' (aN k2 ha))) c3.out ?_;refine rD (aN w1 (aN z1 (aN y1 (aN k1 (aN k3 hb))))) c4.out ?_;refine rD (aN w2 (aN z2 (aN y2 k4))) c5.out ?_;refine rC c6.out ?_;refine rN ?_;exact ends_ag outL rfl
      ·rw [if_pos hf];have hf' : decide (f = 0) = false := by simp [hf]
       refine CI Tryz.func108 ?_;refine rC c1.out ?_;refine rD (aN n1 (aN n1' k1)) c2.out ?_;refine rD (aN n2 (aN n2' (aN k2 ha))) c3.out ?_;refine rD (aN w1 (aN z1 (aN y1 (aN k1 (aN k3 hb))))) c4.out ?_;refine rD (aN w2 (aN z2 (aN y2 k4))) c5.out ?_;refine rC c6.out ?_;refine rS (aN hf' hf) ?_;exact ends_ag outL rfl
     ·rw [if_pos he];have he' : decide (e = 0) = false := by simp [he]
      refine CI Tryz.func108 ?_;refine rC c1.out ?_;refine rD (aN n1 (aN n1' k1)) c2.out ?_;refine rD (aN n2 (aN n2' (aN k2 ha))) c3.out ?_;refine rD (aN w1 (aN z1 (aN y1 (aN k1 (aN k3 hb))))) c4.out ?_;refine rD (aN w2 (aN z2 (aN y2 k4))) c5.out ?_;refine rS (aN he' he) ?_;exact ends_ag outL rfl
end Go.Proofs.YtadmfokicjjglaaGreatDoor.E
