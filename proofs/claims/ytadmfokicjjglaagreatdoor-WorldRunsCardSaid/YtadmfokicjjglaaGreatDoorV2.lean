/- V2: Vd: cmd.Parse. Ve: cmd.Parse whole; law.spoken; law.CmdBack. Wb: records as texts: printed, read. Wc: law.lined; law.NoteBack. -/
import Derived.Test.YtadmfokicjjglaaGreatDoorV1
import Derived.Test.YtadmfokicjjglaaGreatDoorX3
import Derived.Test.YtadmfokicjjglaaGreatDoorX4
import Derived.Test.YtadmfokicjjglaaGreatDoorSq
import Derived.Test.YtadmfokicjjglaaGreatDoorWa
namespace Go.Proofs.YtadmfokicjjglaaGreatDoor.E
open Go.RowKit Go.Proofs
set_option linter.unusedVariables false
set_option linter.unusedSimpArgs false
set_option maxRecDepth 100000
set_option maxHeartbeats 4000000
theorem numR_ok {l : List UInt8} {v : Int} (h : Lib.atoiAll l = .ok v) : numR l = .tup [Int' v, .at .nilIface] := by unfold numR; rw [h]
theorem numR_bad {l : List UInt8} (h : ∀ v, Lib.atoiAll l ≠ .ok v) : ∃ v, numR l = .tup [Int' v, .err] := by
 unfold numR;split
 ·rename_i v hv; exact absurd hv (h v)
 ·exact ⟨_, rfl⟩
 ·exact ⟨_, rfl⟩
def NumsAt (no : List Nat) (s : Nat) (h : Heap) (v : AV) (ts : List (List UInt8)) (k : Nat) : Prop := ∃ ns, S.numsOf (ts.take k) = some ns /\ OwnN no s h v ns
abbrev CmdR (K : Int) : HE := ⟨39, 5, [[Int' K, Int' 0, Int' 0, Int' 0, .nl]]⟩
theorem num_cases (x : List UInt8) : (∃ v, Lib.atoiAll x = .ok v /\ Lib.itoa v = x /\ S.numOf x = some v) \/ (∃ v, Lib.atoiAll x = .ok v /\ Lib.itoa v ≠ x /\ S.numOf x = none) \/ ((∀ v, Lib.atoiAll x ≠ .ok v) /\ S.numOf x = none) := by
 unfold S.numOf;cases h : Lib.atoiAll x with
 | ok v =>
  by_cases e : Lib.itoa v = x
  ·exact .inl ⟨v, rfl, e, by simp [e]⟩
  ·exact .inr (.inl ⟨v, rfl, e, by simp [e]⟩)
 | range => exact .inr (.inr ⟨by simp, rfl⟩)
 | _ => exact .inr (.inr ⟨by simp, rfl⟩)
theorem ne1 (n : Nat) : decide ((n : Int) + 1 = 0) = false := by simp only [decide_eq_false_iff_not]; omega
theorem ne2 (n : Nat) : decide ((n : Int) + 1 + 1 = 0) = false := by simp only [decide_eq_false_iff_not]; omega
theorem ne3 (n : Nat) : decide ((n : Int) + 1 + 1 + 1 = 0) = false := by simp only [decide_eq_false_iff_not]; omega
theorem ne4 (n : Nat) : decide ((n : Int) + 2 = 0) = false := by simp only [decide_eq_false_iff_not]; omega
theorem ne5 (n : Nat) : decide ((n : Int) + 3 = 0) = false := by simp only [decide_eq_false_iff_not]; omega
theorem ne6 (n : Nat) : decide ((n : Int) + 1 + 1 + 1 + 1 = 0) = false := by simp only [decide_eq_false_iff_not]; omega
theorem gt1 (n : Nat) : decide ((0 : Int) < (n : Int) + 1) = true := by simp only [decide_eq_true_eq]; omega
theorem gt2 (n : Nat) : decide ((0 : Int) < (n : Int) + 1 + 1) = true := by simp only [decide_eq_true_eq]; omega
theorem gt3 (n : Nat) : decide ((0 : Int) < (n : Int) + 2) = true := by simp only [decide_eq_true_eq]; omega
theorem gt4 (n : Nat) : decide ((0 : Int) < (n : Int) + 3) = true := by simp only [decide_eq_true_eq]; omega
theorem le1 (n : Nat) : decide (1 + (n + 1) <= n + 1 + 1) = true := by simp only [decide_eq_true_eq]; omega
theorem le2 (n : Nat) : decide (1 + (n + 2) <= n + 1 + 1 + 1) = true := by simp only [decide_eq_true_eq]; omega
theorem le3 (n : Nat) : decide (1 + (n + 3) <= n + 1 + 1 + 1 + 1) = true := by simp only [decide_eq_true_eq]; omega
theorem le4 (n : Nat) : decide (2 + (n + 1) <= n + 1 + 1 + 1) = true := by simp only [decide_eq_true_eq]; omega
theorem le5 (n : Nat) : decide (2 + (n + 2) <= n + 1 + 1 + 1 + 1) = true := by simp only [decide_eq_true_eq]; omega
theorem le6 (n : Nat) : decide (3 + (n + 1) <= n + 1 + 1 + 1 + 1) = true := by simp only [decide_eq_true_eq]; omega
theorem le7 (n : Nat) : decide (1 + (n + 1 + 1) <= n + 1 + 1 + 1) = true := by simp only [decide_eq_true_eq]; omega
theorem le8 (n : Nat) : decide (1 + (n + 1 + 1 + 1) <= n + 1 + 1 + 1 + 1) = true := by simp only [decide_eq_true_eq]; omega
theorem le9 (n : Nat) : decide (2 + (n + 1 + 1) <= n + 1 + 1 + 1 + 1) = true := by simp only [decide_eq_true_eq]; omega
theorem view_cmdN {h : Heap} {i o m : Nat} {ty : TypeId} {ns : List Int} {k z n p : Int} (hi : h i = some ⟨ty, 1, I ns⟩) (hm : o + m = ns.length) : [AV.agg [Int' k, Int' z, Int' n, Int' p, .own i o m]].mapM (viewV h) = some [.agg (cmdC false ⟨k, z, n, p, ns.drop o⟩)] := by
 have e : leafV h (.own i o m) = some (.lst false 1 (I (ns.drop o))) := own_view hi hm
 have e2 : viewV h (.agg [Int' k, Int' z, Int' n, Int' p, .own i o m]) = some (.agg (cmdC false ⟨k, z, n, p, ns.drop o⟩)) := by
  show ([Int' k, Int' z, Int' n, Int' p, .own i o m].mapM (leafV h)).map AV.agg = _;rw [List.mapM_cons, List.mapM_cons, List.mapM_cons, List.mapM_cons, List.mapM_cons, e];rfl
 rw [List.mapM_cons, e2];rfl
theorem cmd_Parse_word (l : List UInt8) (w : List UInt8) (ts : List (List UInt8)) (hl : l.length <= 60000) (hp : S.pieces 32 l = w :: ts) : C Tryz.prog 138 [Tx l] (.tup [.agg (cmdC false (S.cmdWords (w :: ts)).1), Int' (S.cmdWords (w :: ts)).2]) [] := by
 obtain ⟨r, hr⟩ : ∃ r, S.cmdWords (w :: ts) = r := ⟨_, rfl⟩;rw [hr];have hs := strings_Split l [32] (by omega) (by decide);have e : splitL l [32] = w :: ts := (S.split_one 32 l).trans hp;rw [e] at hs;replace hs := hid hs;have hplen := S.pieces_len 32 l;have hpm := S.pieces_mem 32 l;rw [hp] at hplen hpm;have htl : ts.length <= 60000 := by simp at hplen; omega
 have hpm' : ∀ x, x ∈ ts -> x.length <= 1000000 := fun x hx => by have := hpm x (by simp [hx]); omega
 replace hpm := hid hpm';clear e hp hplen hpm';have hl' : decide ((60000 : Int) < (l.length : Int)) = false := by simp; omega
 have hix := hid (index_texts S.words w (by decide));rw [S.cmdWords] at hr;have hrange := S.idxOf_range w S.words;have hk12 : S.idxOf w S.words <= 12 := by have : S.words.length = 13 := rfl; omega
 generalize S.idxOf w S.words = K0 at *;clear hrange;replace hl := hid hl;by_cases hk : K0 < 1
 ·have hk' : decide (K0 < 1) = true := by simp [hk]
  rw [if_pos hk] at hr;subst hr;refine CG [(23, [82080, 80082])] Tryz.func138 ?_;refine rD hl' hs.out ?_;refine rC cmd_words ?_;refine rC hix.out ?_;refine rS hk' ?_;exact ends_ag outL rfl
 have hk' : decide (K0 < 1) = false := by simp [hk]
 rw [if_neg hk] at hr;have hcs := uses_casesD (by omega) hk12;have hus := hid (cmd_uses K0);have tl : (Txs ts).take ts.length = Txs ts := Txs_take ts;replace hk := hid hk;replace hr := hid hr;replace htl := hid htl;replace hcs := hid hcs;clear hk12;refine CG [(23, [82080, 80082])] Tryz.func138 ?_;refine rD hl' hs.out ?_;refine rC cmd_words ?_;refine rC hix.out ?_;refine rS (aN hk' tl) ?_;refine loop_count 34 ts.length (fun k h m t => NumsAt [0, 56] m h (t 6) ts k /\ h 0 = some (CmdR 0) /\ h 56 = some (CmdR K0) /\ ∃ d, m = d + 96) _ rfl (by rfl) ⟨⟨[], rfl, .inl ⟨rfl, rfl⟩⟩, rfl, rfl, ⟨_, rfl⟩⟩ ?_ ?_
 ·rintro k t h m hk hci hs ⟨⟨ns, hns, hown⟩, h0, h56, d, rfl⟩;have hw : IntKind.i64.wrap ((k : Int) + 1) = (k : Int) + 1 := wrap_ok (by have := htl.out; omega);obtain ⟨x, hx⟩ : ∃ x, ts[k]? = some x := ⟨ts[k], by simp⟩;have hk' : decide (k < ts.length) = true := by simp [hk]
  have hxl := hpm.out x (List.mem_of_getElem? hx);have ca := strconv_Atoi x hxl;have e2 := hs 2 rfl;have e5 := hs 5 rfl;have e32 := hs 32 rfl;have e33 := hs 33 rfl;clear hs;simp -dsimp -implicitDefEqProofs at e2 e5 e32 e33;replace hk := hid hk;rcases num_cases x with ⟨v, hv, hix, hnum⟩ | ⟨v, hv, hix, hnum⟩ | ⟨hv, hnum⟩
  ·rw [numR_ok hv] at ca;obtain ⟨b0, b1⟩ := Lib.atoiAll_bounds hv;have ci := hid (strconv_Itoa v b0 b1);have hnn := hid (S.numsOf_take hx hns hnum);have hlen := S.numsOf_len hns;replace ca := hid ca;clear hv hnum hns hxl;have hlen2 : ns.length <= 60000 := by simp at hlen; have := htl.out; have := hk.out; omega
   clear hlen;rcases hown with ⟨t6, rfl⟩ | ⟨i, t6, hno, his, hi⟩
   ·clear hlen2;refine rD (aN e2 (aN e5 (aN e32 (aN e33 (aN hci (aN hk' hx)))))) ca.out ?_;refine rD (aN e2 (aN e5 (aN e32 e33))) ci.out ?_;refine rS (aN e2 (aN e5 (aN e32 (aN e33 (aN hci (aN hw (aN hix t6))))))) ?_;exact ⟨⟨[v], hnn.out, .inr ⟨_, rfl, by simp, by omega, by simp -dsimp -implicitDefEqProofs [I]⟩⟩, by simp -dsimp -implicitDefEqProofs [h0], by simp -dsimp -implicitDefEqProofs [h56]⟩
   ·have n0 : ¬ i = 0 := fun e => hno (by simp [e])
    have n56 : ¬ i = 56 := fun e => hno (by simp [e])
    have n0' : ¬ 0 = i := fun e => hno (by simp [e])
    have n56' : ¬ 56 = i := fun e => hno (by simp [e])
    have hz : decide (ns.length <= 100000000) = true := by simp; omega
    replace hlen2 := hid hlen2;refine rD (aN e2 (aN e5 (aN e32 (aN e33 (aN hci (aN hk' hx)))))) ca.out ?_;refine rD (aN e2 (aN e5 (aN e32 e33))) ci.out ?_;refine rS (aN e2 (aN e5 (aN e32 (aN e33 (aN hci (aN hw (aN hix (aN t6 (aN hi (aN hz (aN n0 (aN n56 (aN n0' (aN n56' (apA his))))))))))))))) ?_;exact ⟨⟨ns ++ [v], hnn.out, .inr ⟨d + 96 + 4 + 12 + 28 + 32 + 12, by simp, by simp, by omega, by simp -dsimp -implicitDefEqProofs [I]⟩⟩, by simp -dsimp -implicitDefEqProofs [h0, n0'], by simp -dsimp -implicitDefEqProofs [h56, n56']⟩
  ·rw [numR_ok hv] at ca;obtain ⟨b0, b1⟩ := Lib.atoiAll_bounds hv;have ci := hid (strconv_Itoa v b0 b1);have hrn := hr.out;rw [S.numsOf_bad hx hnum] at hrn;have hrn' : r = (S.Cmd.zero, 1) := hrn.symm;subst hrn';replace ca := hid ca;clear hv hnum hns hxl hown hrn;refine rD (aN e2 (aN e5 (aN e32 (aN e33 (aN hci (aN hk' hx)))))) ca.out ?_;refine rD (aN e2 (aN e5 (aN e32 e33))) ci.out ?_;refine rS (aN e2 (aN e5 (aN e32 (aN e33 (aN hci (aN hix h0)))))) ?_;exact ends_ag outL rfl
  ·obtain ⟨v, hv'⟩ := numR_bad hv;rw [hv'] at ca;have hrn := hr.out;rw [S.numsOf_bad hx hnum] at hrn;have hrn' : r = (S.Cmd.zero, 1) := hrn.symm;subst hrn';replace ca := hid ca;clear hv hnum hns hxl hown hrn hv';refine rD (aN e2 (aN e5 (aN e32 (aN e33 (aN hci (aN hk' hx)))))) ca.out ?_;refine rS (aN e2 (aN e5 (aN e32 (aN e33 (aN hci h0))))) ?_;exact ends_ag outL rfl
 ·rintro t h m hci hs ⟨⟨ns, hns, hown⟩, h0, h56, d, rfl⟩;rw [List.take_length] at hns;have hrn := hr.out;rw [hns] at hrn;have hlen := S.numsOf_len hns;clear hr hns hpm tl;have e2 := hs 2 rfl;have e5 := hs 5 rfl;have e32 := hs 32 rfl;have e33 := hs 33 rfl;clear hs;simp -dsimp -implicitDefEqProofs at e2 e5 e32 e33;simp only at hrn;have hlen2 : ns.length <= 60000 := by have := htl.out; omega
  clear hlen;replace hlen2 := hid hlen2;unfold S.cmdOf at hrn;rcases hown with ⟨t6, rfl⟩ | ⟨i, t6, hno, his, hi⟩
  ·have t6' := t6;rcases hcs.out with ⟨u1, u2, u3, u4⟩ | ⟨u1, u2, u3, u4⟩ | ⟨u1, u2, u3, u4⟩ | ⟨u1, u2, u3, u4⟩ | ⟨u1, u2, u3, u4⟩ | ⟨u1, u2, u3, u4⟩
   ·skip
    have hus' := hus.out;rw [u1, u2, u3, u4] at hus';replace hus' := hid hus';have hq : r = (S.Cmd.zero, 1) := by simpa [u1, u2, u3, u4, S.takeIf] using hrn.symm
    subst hq;clear hrn;refine rD (aN e2 (aN e5 (aN e32 (aN e33 (aN hci h56))))) hus'.out ?_;refine rS (aN e2 (aN e5 (aN e32 (aN e33 h56)))) ?_;refine loop_unroll 4 ?_;refine rS (aN e2 (aN e5 (aN e32 (aN e33 (aN hci (aN t6 (aN h0 h56))))))) ?_;exact ends_ag outL rfl
   ·skip
    have hus' := hus.out;rw [u1, u2, u3, u4] at hus';replace hus' := hid hus';have hq : r = (S.Cmd.zero, 1) := by simpa [u1, u2, u3, u4, S.takeIf] using hrn.symm
    subst hq;clear hrn;refine rD (aN e2 (aN e5 (aN e32 (aN e33 (aN hci h56))))) hus'.out ?_;refine rS (aN e2 (aN e5 (aN e32 (aN e33 h56)))) ?_;refine loop_unroll 4 ?_;refine rS (aN e2 (aN e5 (aN e32 (aN e33 (aN hci (aN t6 (aN h0 h56))))))) ?_;exact ends_ag outL rfl
   ·skip
    have hus' := hus.out;rw [u1, u2, u3, u4] at hus';replace hus' := hid hus';have hq : r = (S.Cmd.zero, 1) := by simpa [u1, u2, u3, u4, S.takeIf] using hrn.symm
    subst hq;clear hrn;refine rD (aN e2 (aN e5 (aN e32 (aN e33 (aN hci h56))))) hus'.out ?_;refine rS (aN e2 (aN e5 (aN e32 (aN e33 h56)))) ?_;refine loop_unroll 4 ?_;refine rS (aN e2 (aN e5 (aN e32 (aN e33 (aN hci (aN t6 (aN h0 h56))))))) ?_;exact ends_ag outL rfl
   ·skip
    have hus' := hus.out;rw [u1, u2, u3, u4] at hus';replace hus' := hid hus';have hq : r = (S.Cmd.zero, 1) := by simpa [u1, u2, u3, u4, S.takeIf] using hrn.symm
    subst hq;clear hrn;refine rD (aN e2 (aN e5 (aN e32 (aN e33 (aN hci h56))))) hus'.out ?_;refine rS (aN e2 (aN e5 (aN e32 (aN e33 h56)))) ?_;refine loop_unroll 4 ?_;refine rS (aN e2 (aN e5 (aN e32 (aN e33 (aN hci (aN t6 (aN h0 h56))))))) ?_;exact ends_ag outL rfl
   ·skip
    have hus' := hus.out;rw [u1, u2, u3, u4] at hus';replace hus' := hid hus';have hq : r = (S.Cmd.zero, 1) := by simpa [u1, u2, u3, u4, S.takeIf] using hrn.symm
    subst hq;clear hrn;refine rD (aN e2 (aN e5 (aN e32 (aN e33 (aN hci h56))))) hus'.out ?_;refine rS (aN e2 (aN e5 (aN e32 (aN e33 h56)))) ?_;refine loop_unroll 4 ?_;refine rS (aN e2 (aN e5 (aN e32 (aN e33 (aN hci (aN t6 (aN h0 h56))))))) ?_;exact ends_ag outL rfl
   ·skip
    have hus' := hus.out;rw [u1, u2, u3, u4] at hus';replace hus' := hid hus';obtain ⟨q, hq⟩ : ∃ q, S.checkCmd ⟨K0, 0, 0, 0, []⟩ = q := ⟨_, rfl⟩;have hq2 : (if q ≠ 0 then (S.Cmd.zero, q) else (⟨K0, 0, 0, 0, []⟩, 0)) = r := by rw [<- hq]; simpa [u1, u2, u3, u4, S.takeIf] using hrn
    have cc := hid ((hq ▸ cmd_Check ⟨K0, 0, 0, 0, []⟩ : C Tryz.prog 93 [.agg (cmdC false ⟨K0, 0, 0, 0, []⟩)] (Int' q) []).args (args2 := [.agg [Int' K0, Int' 0, Int' 0, Int' 0, .nl]]) (.cons (.agg (.cons (.refl _) (.cons (.refl _) (.cons (.refl _) (.cons (.refl _) (.cons .nl (.nil _))))))) (.nil _)));clear hrn hq;refine rD (aN e2 (aN e5 (aN e32 (aN e33 (aN hci h56))))) hus'.out ?_;refine rS (aN e2 (aN e5 (aN e32 (aN e33 h56)))) ?_;refine loop_unroll 4 ?_;refine rD (aN e2 (aN e5 (aN e32 (aN e33 (aN hci (aN t6 (aN h0 h56))))))) cc.out ?_;by_cases h1 : q = 0
    ·subst h1;rw [if_neg (by simp)] at hq2;subst hq2;refine rS (aN e2 (aN e5 (aN e32 (aN e33 (aN h0 h56))))) ?_;exact ends_ag outL rfl
    ·rw [if_pos h1] at hq2;subst hq2;refine rS (aN e2 (aN e5 (aN e32 (aN e33 (aN h0 (aN h56 h1)))))) ?_;exact ends_ag outL rfl
  ·have n0 : ¬ i = 0 := fun e => hno (by simp [e])
   have n56 : ¬ i = 56 := fun e => hno (by simp [e])
   have n0' : ¬ 0 = i := fun e => hno (by simp [e])
   have n56' : ¬ 56 = i := fun e => hno (by simp [e])
   rcases hcs.out with ⟨u1, u2, u3, u4⟩ | ⟨u1, u2, u3, u4⟩ | ⟨u1, u2, u3, u4⟩ | ⟨u1, u2, u3, u4⟩ | ⟨u1, u2, u3, u4⟩ | ⟨u1, u2, u3, u4⟩
   ·skip
    have hus' := hus.out;rw [u1, u2, u3, u4] at hus';replace hus' := hid hus';rcases ns with _ | ⟨x, _ | ⟨y, rest⟩⟩
    ·skip
     have hq : r = (S.Cmd.zero, 1) := by simpa [u1, u2, u3, u4, S.takeIf] using hrn.symm
     subst hq;clear hrn;refine rD (aN e2 (aN e5 (aN e32 (aN e33 (aN hci h56))))) hus'.out ?_;refine rS (aN e2 (aN e5 (aN e32 (aN e33 h56)))) ?_;refine loop_unroll 4 ?_;simp -dsimp -implicitDefEqProofs [-getElem?_pos, -List.map_append, -List.map_set, List.getElem?_cons_zero, List.getElem?_cons_succ, e2, e5, e32, e33, hci, t6, h0, h56, hi, ne1, ne2, ne3, ne4, ne5, ne6, gt1, gt2, gt3, gt4, le1, le2, le3, le4, le5, le6, le7, le8, le9, n0, n56, n0', n56', apA his];exact ends_ag outL rfl
    ·skip
     obtain ⟨q, hq⟩ : ∃ q, S.checkCmd ⟨K0, x, 0, 0, []⟩ = q := ⟨_, rfl⟩;have hq2 : (if q ≠ 0 then (S.Cmd.zero, q) else (⟨K0, x, 0, 0, []⟩, 0)) = r := by rw [<- hq]; simpa [u1, u2, u3, u4, S.takeIf] using hrn
     have cc := hid (hq ▸ cmd_Check ⟨K0, x, 0, 0, []⟩ : C Tryz.prog 93 [.agg (cmdC false ⟨K0, x, 0, 0, []⟩)] (Int' q) []);clear hrn hq;refine rD (aN e2 (aN e5 (aN e32 (aN e33 (aN hci h56))))) hus'.out ?_;refine rS (aN e2 (aN e5 (aN e32 (aN e33 h56)))) ?_;refine loop_unroll 4 ?_;simp -dsimp -implicitDefEqProofs [-getElem?_pos, -List.map_append, -List.map_set, List.getElem?_cons_zero, List.getElem?_cons_succ, e2, e5, e32, e33, hci, t6, h0, h56, hi, ne1, ne2, ne3, ne4, ne5, ne6, gt1, gt2, gt3, gt4, le1, le2, le3, le4, le5, le6, le7, le8, le9, n0, n56, n0', n56', apA his];refine call_CC (cc.out) ?_;by_cases h1 : q = 0
     ·subst h1;rw [if_neg (by simp)] at hq2;subst hq2;refine rS (aN e2 (aN e5 (aN e32 (aN e33 (aN h0 (aN h56 (aN hi (aN n0 (aN n56 (aN n0' (aN n56' (apA his)))))))))))) ?_;exact ends_ag outL rfl
     ·rw [if_pos h1] at hq2;subst hq2;refine rS (aN e2 (aN e5 (aN e32 (aN e33 (aN h0 (aN h56 (aN h1 (aN hi (aN n0 (aN n56 (aN n0' (aN n56' (apA his))))))))))))) ?_;exact ends_ag outL rfl
    ·skip
     have hq : r = (S.Cmd.zero, 1) := by simpa [u1, u2, u3, u4, S.takeIf] using hrn.symm
     subst hq;clear hrn;refine rD (aN e2 (aN e5 (aN e32 (aN e33 (aN hci h56))))) hus'.out ?_;refine rS (aN e2 (aN e5 (aN e32 (aN e33 h56)))) ?_;refine loop_unroll 4 ?_;simp -dsimp -implicitDefEqProofs [-getElem?_pos, -List.map_append, -List.map_set, List.getElem?_cons_zero, List.getElem?_cons_succ, e2, e5, e32, e33, hci, t6, h0, h56, hi, ne1, ne2, ne3, ne4, ne5, ne6, gt1, gt2, gt3, gt4, le1, le2, le3, le4, le5, le6, le7, le8, le9, n0, n56, n0', n56', apA his];exact ends_ag outL rfl
   ·skip
    have hus' := hus.out;rw [u1, u2, u3, u4] at hus';replace hus' := hid hus';rcases ns with _ | ⟨x, _ | ⟨y, rest⟩⟩
    ·skip
     have hq : r = (S.Cmd.zero, 1) := by simpa [u1, u2, u3, u4, S.takeIf] using hrn.symm
     subst hq;clear hrn;refine rD (aN e2 (aN e5 (aN e32 (aN e33 (aN hci h56))))) hus'.out ?_;refine rS (aN e2 (aN e5 (aN e32 (aN e33 h56)))) ?_;refine loop_unroll 4 ?_;simp -dsimp -implicitDefEqProofs [-getElem?_pos, -List.map_append, -List.map_set, List.getElem?_cons_zero, List.getElem?_cons_succ, e2, e5, e32, e33, hci, t6, h0, h56, hi, ne1, ne2, ne3, ne4, ne5, ne6, gt1, gt2, gt3, gt4, le1, le2, le3, le4, le5, le6, le7, le8, le9, n0, n56, n0', n56', apA his];exact ends_ag outL rfl
    ·skip
     have hq : r = (S.Cmd.zero, 1) := by simpa [u1, u2, u3, u4, S.takeIf] using hrn.symm
     subst hq;clear hrn;refine rD (aN e2 (aN e5 (aN e32 (aN e33 (aN hci h56))))) hus'.out ?_;refine rS (aN e2 (aN e5 (aN e32 (aN e33 h56)))) ?_;refine loop_unroll 4 ?_;simp -dsimp -implicitDefEqProofs [-getElem?_pos, -List.map_append, -List.map_set, List.getElem?_cons_zero, List.getElem?_cons_succ, e2, e5, e32, e33, hci, t6, h0, h56, hi, ne1, ne2, ne3, ne4, ne5, ne6, gt1, gt2, gt3, gt4, le1, le2, le3, le4, le5, le6, le7, le8, le9, n0, n56, n0', n56', apA his];exact ends_ag outL rfl
    ·skip
     obtain ⟨q, hq⟩ : ∃ q, S.checkCmd ⟨K0, x, 0, 0, y :: rest⟩ = q := ⟨_, rfl⟩;have hq2 : (if q ≠ 0 then (S.Cmd.zero, q) else (⟨K0, x, 0, 0, y :: rest⟩, 0)) = r := by rw [<- hq]; simpa [u1, u2, u3, u4, S.takeIf] using hrn
     have cc := hid (hq ▸ cmd_Check ⟨K0, x, 0, 0, y :: rest⟩ : C Tryz.prog 93 [.agg (cmdC false ⟨K0, x, 0, 0, y :: rest⟩)] (Int' q) []);clear hrn hq;refine rD (aN e2 (aN e5 (aN e32 (aN e33 (aN hci h56))))) hus'.out ?_;refine rS (aN e2 (aN e5 (aN e32 (aN e33 h56)))) ?_;refine loop_unroll 4 ?_;simp -dsimp -implicitDefEqProofs [-getElem?_pos, -List.map_append, -List.map_set, List.getElem?_cons_zero, List.getElem?_cons_succ, e2, e5, e32, e33, hci, t6, h0, h56, hi, ne1, ne2, ne3, ne4, ne5, ne6, gt1, gt2, gt3, gt4, le1, le2, le3, le4, le5, le6, le7, le8, le9, n0, n56, n0', n56', apA his];refine call_C (args' := [.agg (cmdC false ⟨K0, x, 0, 0, y :: rest⟩)]) cc.out (view_cmdN (ty := 3) (o := 1) (ns := x :: y :: rest) (by simp -dsimp -implicitDefEqProofs [hi, n0, n56, n0', n56', apA his]) (by simp <;> omega)) (Or.inl ⟨rfl, rfl⟩) (Nat.le_of_ble_eq_true rfl) ?_;by_cases h1 : q = 0
     ·subst h1;rw [if_neg (by simp)] at hq2;subst hq2;refine rS (aN e2 (aN e5 (aN e32 (aN e33 (aN h0 (aN h56 (aN hi (aN n0 (aN n56 (aN n0' (aN n56' (apA his)))))))))))) ?_;exact ends_ag (.at (.at (.at (.at (.endN (ty := 3) (o := 1) (ns := x :: y :: rest) (by simp -dsimp -implicitDefEqProofs [hi, n0, n56, n0', n56', apA his]) (by simp <;> omega) (.nil _)))))) rfl
     ·rw [if_pos h1] at hq2;subst hq2;refine rS (aN e2 (aN e5 (aN e32 (aN e33 (aN h0 (aN h56 (aN h1 (aN hi (aN n0 (aN n56 (aN n0' (aN n56' (apA his))))))))))))) ?_;exact ends_ag outL rfl
   ·skip
    have hus' := hus.out;rw [u1, u2, u3, u4] at hus';replace hus' := hid hus';rcases ns with _ | ⟨x, _ | ⟨y, _ | ⟨u, rest⟩⟩⟩
    ·skip
     have hq : r = (S.Cmd.zero, 1) := by simpa [u1, u2, u3, u4, S.takeIf] using hrn.symm
     subst hq;clear hrn;refine rD (aN e2 (aN e5 (aN e32 (aN e33 (aN hci h56))))) hus'.out ?_;refine rS (aN e2 (aN e5 (aN e32 (aN e33 h56)))) ?_;refine loop_unroll 4 ?_;simp -dsimp -implicitDefEqProofs [-getElem?_pos, -List.map_append, -List.map_set, List.getElem?_cons_zero, List.getElem?_cons_succ, e2, e5, e32, e33, hci, t6, h0, h56, hi, ne1, ne2, ne3, ne4, ne5, ne6, gt1, gt2, gt3, gt4, le1, le2, le3, le4, le5, le6, le7, le8, le9, n0, n56, n0', n56', apA his];exact ends_ag outL rfl
    ·skip
     have hq : r = (S.Cmd.zero, 1) := by simpa [u1, u2, u3, u4, S.takeIf] using hrn.symm
     subst hq;clear hrn;refine rD (aN e2 (aN e5 (aN e32 (aN e33 (aN hci h56))))) hus'.out ?_;refine rS (aN e2 (aN e5 (aN e32 (aN e33 h56)))) ?_;refine loop_unroll 4 ?_;simp -dsimp -implicitDefEqProofs [-getElem?_pos, -List.map_append, -List.map_set, List.getElem?_cons_zero, List.getElem?_cons_succ, e2, e5, e32, e33, hci, t6, h0, h56, hi, ne1, ne2, ne3, ne4, ne5, ne6, gt1, gt2, gt3, gt4, le1, le2, le3, le4, le5, le6, le7, le8, le9, n0, n56, n0', n56', apA his];exact ends_ag outL rfl
    ·skip
     have hq : r = (S.Cmd.zero, 1) := by simpa [u1, u2, u3, u4, S.takeIf] using hrn.symm
     subst hq;clear hrn;refine rD (aN e2 (aN e5 (aN e32 (aN e33 (aN hci h56))))) hus'.out ?_;refine rS (aN e2 (aN e5 (aN e32 (aN e33 h56)))) ?_;refine loop_unroll 4 ?_;simp -dsimp -implicitDefEqProofs [-getElem?_pos, -List.map_append, -List.map_set, List.getElem?_cons_zero, List.getElem?_cons_succ, e2, e5, e32, e33, hci, t6, h0, h56, hi, ne1, ne2, ne3, ne4, ne5, ne6, gt1, gt2, gt3, gt4, le1, le2, le3, le4, le5, le6, le7, le8, le9, n0, n56, n0', n56', apA his];exact ends_ag outL rfl
    ·skip
     obtain ⟨q, hq⟩ : ∃ q, S.checkCmd ⟨K0, x, 0, y, u :: rest⟩ = q := ⟨_, rfl⟩;have hq2 : (if q ≠ 0 then (S.Cmd.zero, q) else (⟨K0, x, 0, y, u :: rest⟩, 0)) = r := by rw [<- hq]; simpa [u1, u2, u3, u4, S.takeIf] using hrn
     have cc := hid (hq ▸ cmd_Check ⟨K0, x, 0, y, u :: rest⟩ : C Tryz.prog 93 [.agg (cmdC false ⟨K0, x, 0, y, u :: rest⟩)] (Int' q) []);clear hrn hq;refine rD (aN e2 (aN e5 (aN e32 (aN e33 (aN hci h56))))) hus'.out ?_;refine rS (aN e2 (aN e5 (aN e32 (aN e33 h56)))) ?_;refine loop_unroll 4 ?_;simp -dsimp -implicitDefEqProofs [-getElem?_pos, -List.map_append, -List.map_set, List.getElem?_cons_zero, List.getElem?_cons_succ, e2, e5, e32, e33, hci, t6, h0, h56, hi, ne1, ne2, ne3, ne4, ne5, ne6, gt1, gt2, gt3, gt4, le1, le2, le3, le4, le5, le6, le7, le8, le9, n0, n56, n0', n56', apA his];refine call_C (args' := [.agg (cmdC false ⟨K0, x, 0, y, u :: rest⟩)]) cc.out (view_cmdN (ty := 3) (o := 2) (ns := x :: y :: u :: rest) (by simp -dsimp -implicitDefEqProofs [hi, n0, n56, n0', n56', apA his]) (by simp <;> omega)) (Or.inl ⟨rfl, rfl⟩) (Nat.le_of_ble_eq_true rfl) ?_;by_cases h1 : q = 0
     ·subst h1;rw [if_neg (by simp)] at hq2;subst hq2;refine rS (aN e2 (aN e5 (aN e32 (aN e33 (aN h0 (aN h56 (aN hi (aN n0 (aN n56 (aN n0' (aN n56' (apA his)))))))))))) ?_;exact ends_ag (.at (.at (.at (.at (.endN (ty := 3) (o := 2) (ns := x :: y :: u :: rest) (by simp -dsimp -implicitDefEqProofs [hi, n0, n56, n0', n56', apA his]) (by simp <;> omega) (.nil _)))))) rfl
     ·rw [if_pos h1] at hq2;subst hq2;refine rS (aN e2 (aN e5 (aN e32 (aN e33 (aN h0 (aN h56 (aN h1 (aN hi (aN n0 (aN n56 (aN n0' (aN n56' (apA his))))))))))))) ?_;exact ends_ag outL rfl
   ·skip
    have hus' := hus.out;rw [u1, u2, u3, u4] at hus';replace hus' := hid hus';rcases ns with _ | ⟨x, _ | ⟨y, _ | ⟨u, _ | ⟨v, rest⟩⟩⟩⟩
    ·skip
     have hq : r = (S.Cmd.zero, 1) := by simpa [u1, u2, u3, u4, S.takeIf] using hrn.symm
     subst hq;clear hrn;refine rD (aN e2 (aN e5 (aN e32 (aN e33 (aN hci h56))))) hus'.out ?_;refine rS (aN e2 (aN e5 (aN e32 (aN e33 h56)))) ?_;refine loop_unroll 4 ?_;simp -dsimp -implicitDefEqProofs [-getElem?_pos, -List.map_append, -List.map_set, List.getElem?_cons_zero, List.getElem?_cons_succ, e2, e5, e32, e33, hci, t6, h0, h56, hi, ne1, ne2, ne3, ne4, ne5, ne6, gt1, gt2, gt3, gt4, le1, le2, le3, le4, le5, le6, le7, le8, le9, n0, n56, n0', n56', apA his];exact ends_ag outL rfl
    ·skip
     have hq : r = (S.Cmd.zero, 1) := by simpa [u1, u2, u3, u4, S.takeIf] using hrn.symm
     subst hq;clear hrn;refine rD (aN e2 (aN e5 (aN e32 (aN e33 (aN hci h56))))) hus'.out ?_;refine rS (aN e2 (aN e5 (aN e32 (aN e33 h56)))) ?_;refine loop_unroll 4 ?_;simp -dsimp -implicitDefEqProofs [-getElem?_pos, -List.map_append, -List.map_set, List.getElem?_cons_zero, List.getElem?_cons_succ, e2, e5, e32, e33, hci, t6, h0, h56, hi, ne1, ne2, ne3, ne4, ne5, ne6, gt1, gt2, gt3, gt4, le1, le2, le3, le4, le5, le6, le7, le8, le9, n0, n56, n0', n56', apA his];exact ends_ag outL rfl
    ·skip
     have hq : r = (S.Cmd.zero, 1) := by simpa [u1, u2, u3, u4, S.takeIf] using hrn.symm
     subst hq;clear hrn;refine rD (aN e2 (aN e5 (aN e32 (aN e33 (aN hci h56))))) hus'.out ?_;refine rS (aN e2 (aN e5 (aN e32 (aN e33 h56)))) ?_;refine loop_unroll 4 ?_;simp -dsimp -implicitDefEqProofs [-getElem?_pos, -List.map_append, -List.map_set, List.getElem?_cons_zero, List.getElem?_cons_succ, e2, e5, e32, e33, hci, t6, h0, h56, hi, ne1, ne2, ne3, ne4, ne5, ne6, gt1, gt2, gt3, gt4, le1, le2, le3, le4, le5, le6, le7, le8, le9, n0, n56, n0', n56', apA his];exact ends_ag outL rfl
    ·skip
     obtain ⟨q, hq⟩ : ∃ q, S.checkCmd ⟨K0, x, u, y, []⟩ = q := ⟨_, rfl⟩;have hq2 : (if q ≠ 0 then (S.Cmd.zero, q) else (⟨K0, x, u, y, []⟩, 0)) = r := by rw [<- hq]; simpa [u1, u2, u3, u4, S.takeIf] using hrn
     have cc := hid (hq ▸ cmd_Check ⟨K0, x, u, y, []⟩ : C Tryz.prog 93 [.agg (cmdC false ⟨K0, x, u, y, []⟩)] (Int' q) []);clear hrn hq;refine rD (aN e2 (aN e5 (aN e32 (aN e33 (aN hci h56))))) hus'.out ?_;refine rS (aN e2 (aN e5 (aN e32 (aN e33 h56)))) ?_;refine loop_unroll 4 ?_;simp -dsimp -implicitDefEqProofs [-getElem?_pos, -List.map_append, -List.map_set, List.getElem?_cons_zero, List.getElem?_cons_succ, e2, e5, e32, e33, hci, t6, h0, h56, hi, ne1, ne2, ne3, ne4, ne5, ne6, gt1, gt2, gt3, gt4, le1, le2, le3, le4, le5, le6, le7, le8, le9, n0, n56, n0', n56', apA his];refine call_CC (cc.out) ?_;by_cases h1 : q = 0
     ·subst h1;rw [if_neg (by simp)] at hq2;subst hq2;refine rS (aN e2 (aN e5 (aN e32 (aN e33 (aN h0 (aN h56 (aN hi (aN n0 (aN n56 (aN n0' (aN n56' (apA his)))))))))))) ?_;exact ends_ag outL rfl
     ·rw [if_pos h1] at hq2;subst hq2;refine rS (aN e2 (aN e5 (aN e32 (aN e33 (aN h0 (aN h56 (aN h1 (aN hi (aN n0 (aN n56 (aN n0' (aN n56' (apA his))))))))))))) ?_;exact ends_ag outL rfl
    ·skip
     have hq : r = (S.Cmd.zero, 1) := by simpa [u1, u2, u3, u4, S.takeIf] using hrn.symm
     subst hq;clear hrn;refine rD (aN e2 (aN e5 (aN e32 (aN e33 (aN hci h56))))) hus'.out ?_;refine rS (aN e2 (aN e5 (aN e32 (aN e33 h56)))) ?_;refine loop_unroll 4 ?_;simp -dsimp -implicitDefEqProofs [-getElem?_pos, -List.map_append, -List.map_set, List.getElem?_cons_zero, List.getElem?_cons_succ, e2, e5, e32, e33, hci, t6, h0, h56, hi, ne1, ne2, ne3, ne4, ne5, ne6, gt1, gt2, gt3, gt4, le1, le2, le3, le4, le5, le6, le7, le8, le9, n0, n56, n0', n56', apA his];exact ends_ag outL rfl
   ·skip
    have hus' := hus.out;rw [u1, u2, u3, u4] at hus';replace hus' := hid hus';rcases ns with _ | ⟨x, _ | ⟨y, rest⟩⟩
    ·skip
     have hq : r = (S.Cmd.zero, 1) := by simpa [u1, u2, u3, u4, S.takeIf] using hrn.symm
     subst hq;clear hrn;refine rD (aN e2 (aN e5 (aN e32 (aN e33 (aN hci h56))))) hus'.out ?_;refine rS (aN e2 (aN e5 (aN e32 (aN e33 h56)))) ?_;refine loop_unroll 4 ?_;simp -dsimp -implicitDefEqProofs [-getElem?_pos, -List.map_append, -List.map_set, List.getElem?_cons_zero, List.getElem?_cons_succ, e2, e5, e32, e33, hci, t6, h0, h56, hi, ne1, ne2, ne3, ne4, ne5, ne6, gt1, gt2, gt3, gt4, le1, le2, le3, le4, le5, le6, le7, le8, le9, n0, n56, n0', n56', apA his];exact ends_ag outL rfl
    ·skip
     obtain ⟨q, hq⟩ : ∃ q, S.checkCmd ⟨K0, 0, x, 0, []⟩ = q := ⟨_, rfl⟩;have hq2 : (if q ≠ 0 then (S.Cmd.zero, q) else (⟨K0, 0, x, 0, []⟩, 0)) = r := by rw [<- hq]; simpa [u1, u2, u3, u4, S.takeIf] using hrn
     have cc := hid (hq ▸ cmd_Check ⟨K0, 0, x, 0, []⟩ : C Tryz.prog 93 [.agg (cmdC false ⟨K0, 0, x, 0, []⟩)] (Int' q) []);clear hrn hq;refine rD (aN e2 (aN e5 (aN e32 (aN e33 (aN hci h56))))) hus'.out ?_;refine rS (aN e2 (aN e5 (aN e32 (aN e33 h56)))) ?_;refine loop_unroll 4 ?_;simp -dsimp -implicitDefEqProofs [-getElem?_pos, -List.map_append, -List.map_set, List.getElem?_cons_zero, List.getElem?_cons_succ, e2, e5, e32, e33, hci, t6, h0, h56, hi, ne1, ne2, ne3, ne4, ne5, ne6, gt1, gt2, gt3, gt4, le1, le2, le3, le4, le5, le6, le7, le8, le9, n0, n56, n0', n56', apA his];refine call_CC (cc.out) ?_;by_cases h1 : q = 0
     ·subst h1;rw [if_neg (by simp)] at hq2;subst hq2;refine rS (aN e2 (aN e5 (aN e32 (aN e33 (aN h0 (aN h56 (aN hi (aN n0 (aN n56 (aN n0' (aN n56' (apA his)))))))))))) ?_;exact ends_ag outL rfl
     ·rw [if_pos h1] at hq2;subst hq2;refine rS (aN e2 (aN e5 (aN e32 (aN e33 (aN h0 (aN h56 (aN h1 (aN hi (aN n0 (aN n56 (aN n0' (aN n56' (apA his))))))))))))) ?_;exact ends_ag outL rfl
    ·skip
     have hq : r = (S.Cmd.zero, 1) := by simpa [u1, u2, u3, u4, S.takeIf] using hrn.symm
     subst hq;clear hrn;refine rD (aN e2 (aN e5 (aN e32 (aN e33 (aN hci h56))))) hus'.out ?_;refine rS (aN e2 (aN e5 (aN e32 (aN e33 h56)))) ?_;refine loop_unroll 4 ?_;simp -dsimp -implicitDefEqProofs [-getElem?_pos, -List.map_append, -List.map_set, List.getElem?_cons_zero, List.getElem?_cons_succ, e2, e5, e32, e33, hci, t6, h0, h56, hi, ne1, ne2, ne3, ne4, ne5, ne6, gt1, gt2, gt3, gt4, le1, le2, le3, le4, le5, le6, le7, le8, le9, n0, n56, n0', n56', apA his];exact ends_ag outL rfl
   ·skip
    have hus' := hus.out;rw [u1, u2, u3, u4] at hus';replace hus' := hid hus';rcases ns with _ | ⟨x, rest⟩
    ·skip
     obtain ⟨q, hq⟩ : ∃ q, S.checkCmd ⟨K0, 0, 0, 0, []⟩ = q := ⟨_, rfl⟩;have hq2 : (if q ≠ 0 then (S.Cmd.zero, q) else (⟨K0, 0, 0, 0, []⟩, 0)) = r := by rw [<- hq]; simpa [u1, u2, u3, u4, S.takeIf] using hrn
     have cc := hid (hq ▸ cmd_Check ⟨K0, 0, 0, 0, []⟩ : C Tryz.prog 93 [.agg (cmdC false ⟨K0, 0, 0, 0, []⟩)] (Int' q) []);clear hrn hq;refine rD (aN e2 (aN e5 (aN e32 (aN e33 (aN hci h56))))) hus'.out ?_;refine rS (aN e2 (aN e5 (aN e32 (aN e33 h56)))) ?_;refine loop_unroll 4 ?_;simp -dsimp -implicitDefEqProofs [-getElem?_pos, -List.map_append, -List.map_set, List.getElem?_cons_zero, List.getElem?_cons_succ, e2, e5, e32, e33, hci, t6, h0, h56, hi, ne1, ne2, ne3, ne4, ne5, ne6, gt1, gt2, gt3, gt4, le1, le2, le3, le4, le5, le6, le7, le8, le9, n0, n56, n0', n56', apA his];refine call_C (args' := [.agg (cmdC false ⟨K0, 0, 0, 0, []⟩)]) cc.out (view_cmdN (ty := 3) (o := 0) (ns := []) (by simp -dsimp -implicitDefEqProofs [hi, n0, n56, n0', n56', apA his]) (by simp <;> omega)) (Or.inl ⟨rfl, rfl⟩) (Nat.le_of_ble_eq_true rfl) ?_;by_cases h1 : q = 0
     ·subst h1;rw [if_neg (by simp)] at hq2;subst hq2;refine rS (aN e2 (aN e5 (aN e32 (aN e33 (aN h0 (aN h56 (aN hi (aN n0 (aN n56 (aN n0' (aN n56' (apA his)))))))))))) ?_;exact ends_ag (.at (.at (.at (.at (.endN (ty := 3) (o := 0) (ns := []) (by simp -dsimp -implicitDefEqProofs [hi, n0, n56, n0', n56', apA his]) (by simp <;> omega) (.nil _)))))) rfl
     ·rw [if_pos h1] at hq2;subst hq2;refine rS (aN e2 (aN e5 (aN e32 (aN e33 (aN h0 (aN h56 (aN h1 (aN hi (aN n0 (aN n56 (aN n0' (aN n56' (apA his))))))))))))) ?_;exact ends_ag outL rfl
    ·skip
     have hq : r = (S.Cmd.zero, 1) := by simpa [u1, u2, u3, u4, S.takeIf] using hrn.symm
     subst hq;clear hrn;refine rD (aN e2 (aN e5 (aN e32 (aN e33 (aN hci h56))))) hus'.out ?_;refine rS (aN e2 (aN e5 (aN e32 (aN e33 h56)))) ?_;refine loop_unroll 4 ?_;simp -dsimp -implicitDefEqProofs [-getElem?_pos, -List.map_append, -List.map_set, List.getElem?_cons_zero, List.getElem?_cons_succ, e2, e5, e32, e33, hci, t6, h0, h56, hi, ne1, ne2, ne3, ne4, ne5, ne6, gt1, gt2, gt3, gt4, le1, le2, le3, le4, le5, le6, le7, le8, le9, n0, n56, n0', n56', apA his];exact ends_ag outL rfl
set_option maxHeartbeats 2000000
theorem cmd_Parse (l : List UInt8) : C Tryz.prog 138 [Tx l] (.tup [.agg (cmdC false (S.cmdParse l).1), Int' (S.cmdParse l).2]) [] := by
 unfold S.cmdParse;by_cases h : 60000 < l.length
 ·have hl' : decide ((60000 : Int) < (l.length : Int)) = true := by simp; omega
  rw [if_pos h];refine CG [(23, [82080, 80082])] Tryz.func138 ?_;refine rS hl' ?_;exact ends_ag outL rfl
 ·rw [if_neg h];unfold S.cmdRead;cases hp : S.pieces 32 l with
  | nil => exact absurd hp (S.pieces_ne _ _)
  | cons w ts => exact cmd_Parse_word l w ts (by omega) hp
theorem print_eq {c : S.Cmd} {r : List UInt8 × Int} (h : S.cmdPrint c = r) : C Tryz.prog 101 [.agg (cmdC false c)] (.tup [Tx r.1, Int' r.2]) [] := h ▸ cmd_Print c
theorem ends_ib {h : Heap} {n : Nat} {a b : Int} {e e' : Bool} (h1 : a = b) (h2 : e = e') : Ends [] (.tup [Int' b, Bool' e']) [] h n (.tup [Int' a, Bool' e]) := by
 subst h1 h2;exact ⟨⟨_, rfl, .refl _⟩, rfl⟩
theorem note_number (l : List UInt8) (hl : l.length <= 1000000) : C Tryz.prog 137 [Tx l] (.tup [Int' (S.numP l).1, Bool' (S.numP l).2]) [] := by
 have ca := strconv_Atoi l hl;unfold S.numP;unfold numR at ca;cases hv : Lib.atoiAll l with
 | ok v =>
  rw [hv] at ca;simp only at ca ⊢;obtain ⟨b0, b1⟩ := Lib.atoiAll_bounds hv;have ci := hid (strconv_Itoa v b0 b1);obtain ⟨b, hb⟩ : ∃ b, decide (Lib.itoa v = l) = b := ⟨_, rfl⟩;rw [hb];clear hv hl;replace ca := hid ca;refine CI Tryz.func137 ?_;refine rC ca.out ?_;refine rC ci.out ?_;refine rS hb ?_;exact ends_ib rfl rfl
 | range =>
  rw [hv] at ca;simp only at ca ⊢;replace ca := hid ca;clear hv;refine CI Tryz.func137 ?_;refine rC ca.out ?_;refine rN ?_;exact ends_ib rfl rfl
 | _ =>
  rw [hv] at ca;simp only at ca ⊢;replace ca := hid ca;clear hv;refine CI Tryz.func137 ?_;refine rC ca.out ?_;refine rN ?_;exact ends_ib rfl rfl
theorem note_Print (r : S.Rec) : C Tryz.prog 65 [.agg (recC false r)] (.tup [Tx (S.recPrint r).1, Int' (S.recPrint r).2]) [] := by
 have h0 := note_Check r;unfold S.recPrint;by_cases h : S.checkRec r = 0
 ·rw [if_neg (by simp [h])];obtain ⟨hw, hs, hc⟩ := S.checkRec_ok h;rw [h] at h0;have h1 := print_eq (c := r.c) (r := (S.cmdText r.c, 0)) (by unfold S.cmdPrint; rw [if_neg (by simp [hc])]);have l1 := (S.itoa_facts (n := r.who) hw.1 (by omega)).2.2.2;have l2 := (S.itoa_facts (n := r.seq) (by omega) (by omega)).2.2.2;have l3 := S.cmdText_len hc;have i1 := hid (itoa_call (n := r.who) (by omega) (by omega));have i2 := hid (itoa_call (n := r.seq) (by omega) (by omega));unfold S.recText;obtain ⟨w, s, c⟩ := r;simp only at *;generalize Lib.itoa w = a at *;generalize Lib.itoa s = b at *;generalize S.cmdText c = t at *;have f0 : decide (a.length <= 3999999999999999999) = true := by simp; omega
  have f2 : decide (a.length + 1 + b.length <= 4000000000000000000) = true := by simp; omega
  have f3 : decide (a.length + (b.length + 1) <= 4000000000000000000) = true := by simp; omega
  have f4 : decide (a.length + (b.length + 1) <= 3999999999999999998) = true := by simp; omega
  have f5 : decide (a.length + (b.length + 2 + 1) + t.length <= 4000000000000000000) = true := by simp; omega
  replace h0 := hid h0;replace h1 := hid h1;clear h hw hs hc l1 l2 l3;refine CI Tryz.func65 ?_;refine rC h0.out ?_;refine rC h1.out ?_;refine rC i1.out ?_;refine rD f0 i2.out ?_;refine rS (aN f2 (aN f3 (aN f4 f5))) ?_;exact ends_ti rfl rfl
 ·rw [if_pos h];generalize S.checkRec r = e at *;have he : decide (e = 0) = false := by simp [h]
  replace h0 := hid h0;refine CI Tryz.func65 ?_;refine rC h0.out ?_;refine rS he ?_;exact ends_ti rfl rfl
theorem note_Parse (l : List UInt8) : C Tryz.prog 105 [Tx l] (.tup [.agg (recC false (S.recParse l).1), Int' (S.recParse l).2]) [] := by
 unfold S.recParse;by_cases hl : 60000 < l.length
 ·have hl' : decide ((60000 : Int) < (l.length : Int)) = true := by simp; omega
  rw [if_pos hl];refine CI Tryz.func105 ?_;refine rS hl' ?_;exact ends_ag outL rfl
 ·have hl' : decide ((60000 : Int) < (l.length : Int)) = false := by simp; omega
  rw [if_neg hl];have c1 := strings_Cut l [58, 32] (by omega);have d1 := S.cut_len l [58, 32];obtain ⟨⟨x, y, p⟩, h1⟩ : ∃ p, Lib.cut l [58, 32] = p := ⟨_, rfl⟩;rw [h1] at c1 d1 ⊢;simp only at c1 d1 ⊢;have c2 := strings_Cut x [32] (by omega);have d2 := S.cut_len x [32];obtain ⟨⟨u, v, q⟩, h2⟩ : ∃ p, Lib.cut x [32] = p := ⟨_, rfl⟩;rw [h2] at c2 d2 ⊢;simp only at c2 d2 ⊢;have c3 := note_number u (by omega);have c4 := note_number v (by omega);obtain ⟨⟨m, s⟩, h3⟩ : ∃ p, S.numP u = p := ⟨_, rfl⟩;obtain ⟨⟨n, t⟩, h4⟩ : ∃ p, S.numP v = p := ⟨_, rfl⟩;rw [h3] at c3 ⊢;rw [h4] at c4 ⊢;simp only at c3 c4 ⊢;clear h1 h2 h3 h4 d1 d2 hl;replace c1 := hid c1;replace c2 := hid c2;replace c3 := hid c3;replace c4 := hid c4;by_cases hb : (p && q && s && t) = false
  ·rw [if_pos hb]
   have cs : p = false \/ (p = true /\ (q = false \/ (q = true /\ (s = false \/ (s = true /\ t = false))))) := by
    cases p <;> cases q <;> cases s <;> cases t <;> simp_all
   clear hb;rcases cs with rfl | ⟨rfl, rfl | ⟨rfl, rfl | ⟨rfl, rfl⟩⟩⟩
   all_goals
    refine CI Tryz.func105 ?_;refine rD hl' c1.out ?_;refine rC c2.out ?_;refine rC c3.out ?_;refine rC c4.out ?_;refine rN ?_;exact ends_ag outL rfl
  ·rw [if_neg hb]
   have hp : p = true /\ q = true /\ s = true /\ t = true := by
    cases p <;> cases q <;> cases s <;> cases t <;> simp_all
   obtain ⟨rfl, rfl, rfl, rfl⟩ := hp;unfold S.recOf;have c5 := cmd_Parse y;obtain ⟨⟨c, e⟩, h5⟩ : ∃ p, S.cmdParse y = p := ⟨_, rfl⟩;rw [h5] at c5 ⊢;simp only at c5 ⊢;replace c5 := hid c5;clear h5 hb;by_cases he : e = 0
   ·subst he;rw [if_neg (by simp)];have c6 := note_Check ⟨m, n, c⟩;obtain ⟨f, hf⟩ : ∃ f, S.checkRec ⟨m, n, c⟩ = f := ⟨_, rfl⟩;rw [hf] at c6 ⊢;replace c6 := hid c6;clear hf;by_cases hf : f = 0
    ·subst hf;rw [if_neg (by simp)];refine CI Tryz.func105 ?_;refine rD hl' c1.out ?_;refine rC c2.out ?_;refine rC c3.out ?_;refine rC c4.out ?_;refine rC c5.out ?_;refine rC c6.out ?_;refine rN ?_;exact ends_ag outL rfl
    ·rw [if_pos hf];have hf' : decide (f = 0) = false := by simp [hf]
     refine CI Tryz.func105 ?_;refine rD hl' c1.out ?_;refine rC c2.out ?_;refine rC c3.out ?_;refine rC c4.out ?_;refine rC c5.out ?_;refine rC c6.out ?_;refine rS (aN hf' hf) ?_;exact ends_ag outL rfl
   ·rw [if_pos he];have he' : decide (e = 0) = false := by simp [he]
    refine CI Tryz.func105 ?_;refine rD hl' c1.out ?_;refine rC c2.out ?_;refine rC c3.out ?_;refine rC c4.out ?_;refine rC c5.out ?_;refine rS (aN he' he) ?_;exact ends_ag outL rfl
theorem rparse_eq {l : List UInt8} {r : S.Rec × Int} (h : S.recParse l = r) : C Tryz.prog 105 [Tx l] (.tup [.agg (recC false r.1), Int' r.2]) [] := h ▸ note_Parse l
end Go.Proofs.YtadmfokicjjglaaGreatDoor.E
