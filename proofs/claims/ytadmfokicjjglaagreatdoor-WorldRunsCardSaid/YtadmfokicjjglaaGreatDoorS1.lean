/- S1: Hf: law.HandTurns. Sc: strings.Contains of one byte (turned from the shelf's templates strings.Contains, strings.Index, stringslite.Index, stringslite.IndexByte), and as a contract of the engine. Hg: the reference on commands. Hi: the reference on answers and hands. -/
import Derived.Test.YtadmfokicjjglaaGreatDoorD4
import Derived.Lib.Strings
import Derived.Lib.Slices
import Derived.Lib.Walk
import Derived.Lib.Bytealg
import Derived.Test.YtadmfokicjjglaaGreatDoorL1
import Derived.Test.YtadmfokicjjglaaGreatDoorX3
namespace Go.Proofs.YtadmfokicjjglaaGreatDoor.E
open Go.RowKit Go.Proofs
set_option maxRecDepth 100000
set_option maxHeartbeats 2000000
set_option linter.unusedSimpArgs false
theorem checkHand_of {h : S.Hand} (h1 : 0 <= h.seq /\ h.seq <= 40) (h2 : ∀ a, a ∈ h.got -> S.checkAnswer a = 0) (h3 : (h.got.length : Int) + (if h.waits = true then 1 else 0) = h.seq) (h4 : h.waits = false -> h.c = S.Cmd.zero) (h5 : h.waits = true -> S.checkCmd h.c = 0) : S.checkHand h = 0 := by
 have hf : S.firstBad S.checkAnswer h.got = 0 := firstBad_none fun j x _ hx => h2 x (List.mem_of_getElem? hx)
 unfold S.checkHand;rw [if_neg (by omega), if_neg (by simp [hf]), if_neg]
 ·split
  ·rename_i hw; exact h5 hw
  ·rfl
 ·rintro (g | ⟨g, g'⟩)
  ·exact g h3
  ·exact g' (h4 g)
end Go.Proofs.YtadmfokicjjglaaGreatDoor.E
namespace Go.Proofs.YtadmfokicjjglaaGreatDoor.Sc
open Go.Proofs
set_option linter.unusedSimpArgs false
set_option linter.unusedVariables false
set_option maxHeartbeats 1000000 in
set_option maxRecDepth 100000 in
theorem indexByte_ok (s : ByteArray) (c : Int) (w : World) :
  Calls Tryz.prog 176 #[.string s, .int .u8 c] w fun e w' => e = .returned (.int .i64 (Lib.indexByte s.data.toList c.toNat.toUInt8)) /\ w' = w := by
 go_enter Tryz.func176, Tryz.ntmps176
 go_wp2
 rw [run_callFunc_extern Tryz.func205 (by kernel_rfl) (by kernel_rfl) (by kernel_rfl) (e := Extern.BytealgIndexByte.indexByte) (by kernel_rfl), Lib.run_indexByteString];simp only [Result.andThen];rw [Oper.upon_value];go_wp2
 go_ret
 exact ⟨rfl, rfl⟩
set_option maxHeartbeats 2000000 in
set_option maxRecDepth 100000 in
theorem index_lite (s : ByteArray) (c : UInt8) (w : World) :
  Calls Tryz.prog 170 #[.string s, .string ⟨#[c]⟩] w fun e w' => e = .returned (.int .i64 (Lib.indexByte s.data.toList c)) /\ w' = w := by
 go_enter Tryz.func170, Tryz.ntmps170
 go_wp2_with (go_at_call 176; refine (indexByte_ok _ _ _).mono ?_; rintro e w' ⟨rfl, rfl⟩)
 ·have h : ([c] == s.toList) = true := by assumption
  go_ret
  refine ⟨?_, rfl⟩;have e : s.data.toList = [c] := by rw [<- Lib.toList_data]; exact (beq_iff_eq.1 h).symm
  rw [e];simp [Lib.indexByte]
 ·go_ret
  exact ⟨rfl, rfl⟩
set_option maxHeartbeats 1000000 in
theorem index_one (s : ByteArray) (c : UInt8) (w : World) :
  Calls Tryz.prog 141 #[.string s, .string ⟨#[c]⟩] w fun e w' => e = .returned (.int .i64 (Lib.indexByte s.data.toList c)) /\ w' = w := by
 go_enter Tryz.func141, Tryz.ntmps141
 go_wp2_with (go_at_call 170; refine (index_lite _ _ _).mono ?_; rintro e w' ⟨rfl, rfl⟩)
 go_ret
 exact ⟨rfl, rfl⟩
set_option maxHeartbeats 1000000 in
theorem contains_one (s : ByteArray) (c : UInt8) (w : World) :
  Calls Tryz.prog 118 #[.string s, .string ⟨#[c]⟩] w fun e w' => e = .returned (.bool (decide (0 <= Lib.indexByte s.data.toList c))) /\ w' = w := by
 go_enter Tryz.func118, Tryz.ntmps118
 go_wp2_with (go_at_call 141; refine (index_one _ _ _).mono ?_; rintro e w' ⟨rfl, rfl⟩)
 go_ret
 exact ⟨rfl, rfl⟩
end Go.Proofs.YtadmfokicjjglaaGreatDoor.Sc
namespace Go.Proofs.YtadmfokicjjglaaGreatDoor.E
open Go.RowKit Go.Proofs
set_option linter.unusedSimpArgs false
set_option linter.unusedVariables false
theorem strings_Contains (s : ByteArray) (c : UInt8) : C Tryz.prog 118 [.at (.string s), .at (.string ⟨#[c]⟩)] (Bool' (decide (0 <= Lib.indexByte s.data.toList c))) [] := by
 refine ⟨fun _ _ => by kernel_rfl, rfl, rfl, fun F w vs hF hG hv => ?_⟩;have H0 : HRel w.heap.size w noPlace F (heapOf []) 0 w := ⟨Below.refl _ _, ⟨Nat.le_refl _, hG⟩, hF, fun _ _ => rfl, (fun i e he => by simp [heapOf] at he), (fun i j e e' b c s c' s' h1 => by simp [heapOf] at h1)⟩;obtain ⟨h1, h2⟩ := hv
 match vs, h1, h2 with
 | [u, v], _, h2 =>
  have e1 := V_at (h2 0 _ _ rfl rfl);have e2 := V_at (h2 1 _ _ rfl rfl);subst e1 e2;refine (Sc.contains_one s c w).mono ?_;rintro e w' ⟨rfl, rfl⟩;exact ⟨_, noPlace, F, rfl, H0, .at rfl, fun b hb => .inl hb⟩
set_option maxRecDepth 100000
set_option maxHeartbeats 1000000
theorem all_badH (xs : List Int) : xs.all (within 0 999) = !xs.any S.bad := by
 induction xs with
 | nil => rfl
 | cons x xs ih =>
  rw [List.all_cons, List.any_cons, ih, Bool.not_or];congr 1
  simp [S.bad];cases h1 : decide (x < 0) <;> cases h2 : decide (999 < x) <;> simp at h1 h2 <;> simp <;> omega
theorem ref_has (k : Int) (h : 1 <= k /\ k <= 12) : ∃ s : ByteArray, C Tryz.prog 117 [Int' k] (.at (.string s)) [] /\ decide (0 <= Lib.indexByte s.data.toList 122) = S.uZ k /\ decide (0 <= Lib.indexByte s.data.toList 97) = S.uA k /\ decide (0 <= Lib.indexByte s.data.toList 110) = S.uN k /\ decide (0 <= Lib.indexByte s.data.toList 100) = S.uD k := by
 have hk : k = 1 \/ k = 2 \/ k = 3 \/ k = 4 \/ k = 5 \/ k = 6 \/ k = 7 \/ k = 8 \/ k = 9 \/ k = 10 \/ k = 11 \/ k = 12 := by omega
 clear h;rcases hk with rfl | rfl | rfl | rfl | rfl | rfl | rfl | rfl | rfl | rfl | rfl | rfl
 ·exact ⟨⟨#[122]⟩, by (refine CI Tryz.func117 ?_); (simp -dsimp -implicitDefEqProofs [-getElem?_pos, -List.map_append, -List.map_set, List.getElem?_cons_zero, List.getElem?_cons_succ]); exact ⟨⟨_, rfl, Sub.refl _⟩, rfl⟩, by decide, by decide, by decide, by decide⟩
 ·exact ⟨⟨#[122]⟩, by (refine CI Tryz.func117 ?_); (simp -dsimp -implicitDefEqProofs [-getElem?_pos, -List.map_append, -List.map_set, List.getElem?_cons_zero, List.getElem?_cons_succ]); exact ⟨⟨_, rfl, Sub.refl _⟩, rfl⟩, by decide, by decide, by decide, by decide⟩
 ·exact ⟨⟨#[122]⟩, by (refine CI Tryz.func117 ?_); (simp -dsimp -implicitDefEqProofs [-getElem?_pos, -List.map_append, -List.map_set, List.getElem?_cons_zero, List.getElem?_cons_succ]); exact ⟨⟨_, rfl, Sub.refl _⟩, rfl⟩, by decide, by decide, by decide, by decide⟩
 ·exact ⟨⟨#[122]⟩, by (refine CI Tryz.func117 ?_); (simp -dsimp -implicitDefEqProofs [-getElem?_pos, -List.map_append, -List.map_set, List.getElem?_cons_zero, List.getElem?_cons_succ]); exact ⟨⟨_, rfl, Sub.refl _⟩, rfl⟩, by decide, by decide, by decide, by decide⟩
 ·exact ⟨⟨#[122, 100]⟩, by (refine CI Tryz.func117 ?_); (simp -dsimp -implicitDefEqProofs [-getElem?_pos, -List.map_append, -List.map_set, List.getElem?_cons_zero, List.getElem?_cons_succ]); exact ⟨⟨_, rfl, Sub.refl _⟩, rfl⟩, by decide, by decide, by decide, by decide⟩
 ·exact ⟨⟨#[122, 97, 100]⟩, by (refine CI Tryz.func117 ?_); (simp -dsimp -implicitDefEqProofs [-getElem?_pos, -List.map_append, -List.map_set, List.getElem?_cons_zero, List.getElem?_cons_succ]); exact ⟨⟨_, rfl, Sub.refl _⟩, rfl⟩, by decide, by decide, by decide, by decide⟩
 ·exact ⟨⟨#[122, 97, 110]⟩, by (refine CI Tryz.func117 ?_); (simp -dsimp -implicitDefEqProofs [-getElem?_pos, -List.map_append, -List.map_set, List.getElem?_cons_zero, List.getElem?_cons_succ]); exact ⟨⟨_, rfl, Sub.refl _⟩, rfl⟩, by decide, by decide, by decide, by decide⟩
 ·exact ⟨⟨#[110]⟩, by (refine CI Tryz.func117 ?_); (simp -dsimp -implicitDefEqProofs [-getElem?_pos, -List.map_append, -List.map_set, List.getElem?_cons_zero, List.getElem?_cons_succ]); exact ⟨⟨_, rfl, Sub.refl _⟩, rfl⟩, by decide, by decide, by decide, by decide⟩
 ·exact ⟨⟨#[110]⟩, by (refine CI Tryz.func117 ?_); (simp -dsimp -implicitDefEqProofs [-getElem?_pos, -List.map_append, -List.map_set, List.getElem?_cons_zero, List.getElem?_cons_succ]); exact ⟨⟨_, rfl, Sub.refl _⟩, rfl⟩, by decide, by decide, by decide, by decide⟩
 ·exact ⟨⟨#[]⟩, by (refine CI Tryz.func117 ?_); (simp -dsimp -implicitDefEqProofs [-getElem?_pos, -List.map_append, -List.map_set, List.getElem?_cons_zero, List.getElem?_cons_succ]); exact ⟨⟨_, rfl, Sub.refl _⟩, rfl⟩, by decide, by decide, by decide, by decide⟩
 ·exact ⟨⟨#[110]⟩, by (refine CI Tryz.func117 ?_); (simp -dsimp -implicitDefEqProofs [-getElem?_pos, -List.map_append, -List.map_set, List.getElem?_cons_zero, List.getElem?_cons_succ]); exact ⟨⟨_, rfl, Sub.refl _⟩, rfl⟩, by decide, by decide, by decide, by decide⟩
 ·exact ⟨⟨#[]⟩, by (refine CI Tryz.func117 ?_); (simp -dsimp -implicitDefEqProofs [-getElem?_pos, -List.map_append, -List.map_set, List.getElem?_cons_zero, List.getElem?_cons_succ]); exact ⟨⟨_, rfl, Sub.refl _⟩, rfl⟩, by decide, by decide, by decide, by decide⟩
theorem ref_CheckCmd (c : S.Cmd) : C Tryz.prog 83 [.agg (cmdC false c)] (Int' (S.checkCmd c)) [] := by
 obtain ⟨k, z, n, p, d⟩ := c;obtain ⟨r, hr⟩ : ∃ r, S.checkCmd ⟨k, z, n, p, d⟩ = r := ⟨_, rfl⟩;rw [hr];unfold S.checkCmd S.misused at hr;simp only at hr;replace hr := hid hr;have hin := ref_in k 1 12;by_cases h1 : 1 <= k /\ k <= 12
 rotate_left
 ·have e : (decide (1 <= k) && decide (k <= 12)) = false := by simp; omega
  rw [e] at hin;replace hin := hid hin;obtain rfl : r = 4 := by rw [<- hr.out, if_pos (by omega)]
  refine CI Tryz.func83 ?_;refine rC hin.out ?_;refine rN ?_;exact ends_int rfl
 have e : (decide (1 <= k) && decide (k <= 12)) = true := by simp; omega
 rw [e] at hin;replace hin := hid hin;obtain ⟨s, hs, c1, c2, c3, c4⟩ := ref_has k h1;have hr2 := hr.out;rw [if_neg (by omega)] at hr2;replace hr2 := hid hr2;clear hr h1 e;have d1 := strings_Contains s 122;have d2 := strings_Contains s 97;have d3 := strings_Contains s 110;have d4 := strings_Contains s 100;rw [c1] at d1;rw [c2] at d2;rw [c3] at d3;rw [c4] at d4;clear c1 c2 c3 c4;replace d1 := hid d1;replace d2 := hid d2;replace d3 := hid d3;replace d4 := hid d4;replace hs := hid hs;generalize S.uZ k = b1 at *;generalize S.uA k = b2 at *;generalize S.uN k = b3 at *;generalize S.uD k = b4 at *;refine CI Tryz.func83 ?_;refine rC hin.out ?_;refine rC hs.out ?_;refine rN ?_;refine loop_unroll 4 ?_;refine rN ?_;refine guardC_C (d1.out) (by first | rfl | (simp -dsimp -implicitDefEqProofs; done)) (by first | exact Or.inr (by rfl) | exact Or.inl (by rfl)) ?_;refine rN ?_;refine brA_split (fun g1 => ?_) (fun g1 => ?_)
 ·obtain rfl : r = 4 := by rw [<- hr2.out, if_pos (by simp at g1; simp [g1])]
  refine rN ?_;exact ends_int rfl
 refine rN ?_;refine guardC_C (d2.out) (by first | rfl | (simp -dsimp -implicitDefEqProofs; done)) (by first | exact Or.inr (by rfl) | exact Or.inl (by rfl)) ?_;refine rN ?_;refine brA_split (fun g2 => ?_) (fun g2 => ?_)
 ·obtain rfl : r = 4 := by rw [<- hr2.out, if_pos (by simp at g2; simp [g2])]
  refine rN ?_;exact ends_int rfl
 refine rN ?_;refine guardC_C (d3.out) (by first | rfl | (simp -dsimp -implicitDefEqProofs; done)) (by first | exact Or.inr (by rfl) | exact Or.inl (by rfl)) ?_;refine rN ?_;refine brA_split (fun g3 => ?_) (fun g3 => ?_)
 ·obtain rfl : r = 4 := by rw [<- hr2.out, if_pos (by simp at g3; simp [g3])]
  refine rN ?_;exact ends_int rfl
 refine rC d4.out ?_;refine rN ?_;have e4 : decide (0 < d.length) = !decide (d = []) := by cases d <;> simp
 have hr3 := hr2.out;rw [e4] at hr3;replace hr3 := hid hr3;clear hr2 e4;refine brA_split (fun g4 => ?_) (fun g4 => ?_)
 ·obtain rfl : r = 4 := by
   rw [<- hr3.out, if_pos];revert g4;cases b4 <;> cases decide (d = []) <;> simp
  refine rN ?_;exact ends_int rfl
 have hr4 := hr3.out
 rw [if_neg (by
  have x4 : (!(b4 == !decide (d = []))) = false := by revert g4; cases b4 <;> cases decide (d = []) <;> simp
  rw [x4];revert g1 g2 g3
  cases b1 <;> cases b2 <;> cases b3 <;> cases decide (z = 0) <;> cases decide (n = 0) <;> cases decide (p = 0) <;> simp)] at hr4
 replace hr4 := hid hr4;clear hr3 g1 g2 g3 g4;refine rN ?_;refine brA_split (fun g5 => ?_) (fun g5 => ?_)
 ·obtain rfl : r = 2 := by rw [<- hr4.out, if_pos (by simp at g5; omega)]
  refine rN ?_;exact ends_int rfl
 have hr5 := hr4.out;rw [if_neg (by simp at g5; omega)] at hr5;replace hr5 := hid hr5;clear hr4;have hl : d.length <= 8 := by simp at g5; omega
 clear g5;have a1 := ref_all [z, p, n] 0 999 (by simp);have a2 := ref_all d 0 999 (by omega);rw [all_badH] at a1 a2;have hb : (z :: p :: n :: d).any S.bad = ([z, p, n].any S.bad || d.any S.bad) := by simp [Bool.or_assoc]
 rw [hb] at hr5;clear hb;generalize [z, p, n].any S.bad = q1 at *;generalize d.any S.bad = q2 at *;replace hr5 := hid hr5;replace a1 := hid a1;replace a2 := hid a2;refine rC a1.out ?_;refine rN ?_;refine guardC_C (a2.out) (by first | rfl | (simp -dsimp -implicitDefEqProofs; done)) (by first | exact Or.inr (by rfl) | exact Or.inl (by rfl)) ?_;refine rN ?_;cases q1 <;> cases q2
 ·refine rN ?_;exact ends_int (by rw [<- hr5.out]; rfl)
 ·refine rN ?_;exact ends_int (by rw [<- hr5.out]; rfl)
 ·refine rN ?_;exact ends_int (by rw [<- hr5.out]; rfl)
 ·refine rN ?_;exact ends_int (by rw [<- hr5.out]; rfl)
theorem ref_CheckAnswer (a : S.Answer) : C Tryz.prog 82 [.agg (ansC false a)] (Int' (S.checkAnswer a)) [] := by
 obtain ⟨e, p, xs⟩ := a;obtain ⟨r, hr⟩ : ∃ r, S.checkAnswer ⟨e, p, xs⟩ = r := ⟨_, rfl⟩;rw [hr];unfold S.checkAnswer at hr;simp only at hr;have i1 := ref_in e 0 9;have i2 := ref_in p 0 7;obtain ⟨b1, hb1⟩ : ∃ b, (decide (0 <= e) && decide (e <= 9)) = b := ⟨_, rfl⟩;obtain ⟨b2, hb2⟩ : ∃ b, (decide (0 <= p) && decide (p <= 7)) = b := ⟨_, rfl⟩;rw [hb1] at i1;rw [hb2] at i2
 have hc1 : (e < 0 \/ 9 < e \/ p < 0 \/ 8 <= p) ↔ ¬ (b1 = true /\ b2 = true) := by
  rw [<- hb1, <- hb2]; simp; omega
 have hpos : b1 = true /\ b2 = true -> 0 <= e /\ 0 <= p := by
  rw [<- hb1, <- hb2]; simp; omega
 clear hb1 hb2;replace hpos := hid hpos;replace hr := hid hr;replace i1 := hid i1;replace i2 := hid i2;refine CI Tryz.func82 ?_;refine rC i1.out ?_;refine rN ?_;refine guardC_C (i2.out) (by first | rfl | (simp -dsimp -implicitDefEqProofs; done)) (by first | exact Or.inr (by rfl) | exact Or.inl (by rfl)) ?_;refine rN ?_;have hr2 := hr.out;clear hr;cases b1 <;> cases b2
 rotate_right
 ·rw [if_neg (by rw [hc1]; simp)] at hr2;replace hr2 := hid hr2;clear hc1;refine rN ?_;refine brA_split (fun h2 => ?_) (fun h2 => ?_)
  ·refine rN ?_;exact ends_int (by rw [<- hr2.out, if_pos (by simp at h2; omega)])
  have hr3 := hr2.out;rw [if_neg (by simp at h2; omega)] at hr3;replace hr3 := hid hr3;clear hr2;have hal := ref_all xs 0 999 (by simp at h2; omega);rw [all_badH] at hal;generalize xs.any S.bad = q at *;replace hal := hid hal;refine rC hal.out ?_;cases q
  ·refine rN ?_;have hr4 := hr3.out;rw [if_neg (by simp)] at hr4;replace hr4 := hid hr4;clear hr3;obtain ⟨p1, p2⟩ := hpos.out ⟨rfl, rfl⟩;refine brA_split (fun h4 => ?_) (fun h4 => ?_)
   ·refine rN ?_;exact ends_int (by rw [<- hr4.out, if_pos (by simp at h4; omega)])
   ·refine rN ?_
    exact ends_int (by
     rw [<- hr4.out, if_neg];intro hh
     have : (decide (0 < e) && (decide (0 < p) || decide (0 < xs.length))) = true := by
      simp only [Bool.and_eq_true, Bool.or_eq_true, decide_eq_true_eq]; omega
     rw [this] at h4; cases h4)
  ·refine rN ?_;exact ends_int (by rw [<- hr3.out]; rfl)
 all_goals
  rw [if_pos (by rw [hc1]; simp)] at hr2;subst hr2;refine rN ?_;exact ends_int rfl
theorem ref_CheckHand (h : S.Hand) : C Tryz.prog 36 [.agg (handC false h)] (Int' (S.checkHand h)) [] := by
 refine C_real (fun _ _ => by kernel_rfl) rfl rfl fun hr => ?_
 have hlen := ((hr.get (j := 0) rfl).field (j := 7) rfl).len;rw [List.length_map] at hlen;unfold maxLen at hlen;clear hr;obtain ⟨s, w, c, got⟩ := h;simp only at hlen;obtain ⟨r, hr⟩ : ∃ r, S.checkHand ⟨s, w, c, got⟩ = r := ⟨_, rfl⟩;rw [hr];unfold S.checkHand at hr;simp only at hr;replace hr := hid hr;refine CI Tryz.func36 ?_;refine rC (ref_in s 0 40) ?_;refine rN ?_;refine brA_split (fun h1 => ?_) (fun h1 => ?_)
 ·refine rN ?_;exact ends_int (by simp at h1; rw [<- hr.out, if_pos (by omega)])
 simp at h1;have c1 : ¬ (s < 0 \/ 40 < s) := by omega
 refine rN ?_;refine loop_count 13 got.length (fun k h m _ => h 0 = some ⟨85, 8, [handC false ⟨s, w, c, got⟩]⟩ /\ (∃ d, m = d + 20) /\ Hid (∀ (j : Nat) (x : S.Answer), j < k -> got[j]? = some x -> S.checkAnswer x = 0)) _ rfl (by rfl) ⟨rfl, ⟨_, rfl⟩, by intro j hj; omega⟩ ?_ ?_
 ·rintro k t h m hk hci hs ⟨h0, ⟨d, rfl⟩, hb⟩;have hw : IntKind.i64.wrap ((k : Int) + 1) = (k : Int) + 1 := wrap_ok (by omega);obtain ⟨x, hx⟩ : ∃ x, got[k]? = some x := ⟨got[k], by simp⟩;have hk' : decide (k < got.length) = true := by simp [hk]
  have e1 := hs 1 rfl;have e11 := hs 11 rfl;have e12 := hs 12 rfl;clear hs;simp -dsimp -implicitDefEqProofs at e1 e11 e12;replace hk := hid hk;refine rD (aN e1 (aN e11 (aN e12 (aN hci (aN hk' (aN hx h0)))))) (ref_CheckAnswer x) ?_;refine rN ?_;refine brA_split (fun g1 => ?_) (fun g1 => ?_)
  ·refine rS (aN hw (aN hci (aN e1 (aN e11 (aN e12 h0))))) ?_;exact upto_succ hb.out hx (by simpa using g1)
  ·refine rN ?_;exact ends_int (by rw [<- hr.out, if_neg c1, firstBad_at hb.out hx (by simpa using g1), if_pos (by simpa using g1)])
 ·rintro t h m hci hs ⟨h0, ⟨d, rfl⟩, hb⟩;have hfb := firstBad_none (f := S.checkAnswer) (xs := got) hb.out;have e1 := hs 1 rfl;have e11 := hs 11 rfl;have e12 := hs 12 rfl;clear hs;simp -dsimp -implicitDefEqProofs at e1 e11 e12;have hr2 := hr.out;rw [if_neg c1, hfb, if_neg (by simp)] at hr2;replace hr2 := hid hr2;clear hr;refine rS (aN e1 (aN e11 (aN e12 (aN hci h0)))) ?_;cases w
  ·refine rS (aN h0 (aN e1 (aN e11 e12))) ?_;refine brA_split (fun g => ?_) (fun g => ?_)
   ·refine rD (aN h0 (aN e1 (aN e11 e12))) (ref_SameCmd0 c) ?_;refine rS (aN h0 (aN e1 (aN e11 e12))) ?_;by_cases hz : c = S.Cmd.zero
    ·refine rS (aN hz (aN h0 (aN e1 (aN e11 e12)))) ?_;exact ends_int (by rw [<- hr2.out, if_neg (by simp at g; simp [hz]; omega)]; rfl)
    ·refine rS (aN hz (aN h0 (aN e1 (aN e11 e12)))) ?_;exact ends_int (by rw [<- hr2.out, if_pos (.inr ⟨rfl, hz⟩)])
   ·refine rS (aN g (aN h0 (aN e1 (aN e11 e12)))) ?_;exact ends_int (by rw [<- hr2.out, if_pos (.inl (by simp at g; simp; omega))])
  ·obtain ⟨u, hu, hus⟩ : ∃ u, IntKind.i64.wrap ((got.length : Int) + 1) = u /\ (u = s ↔ (got.length : Int) + 1 = s) := by
    refine ⟨_, rfl, ?_⟩;rw [IntKind.wrap_i64];omega
   replace hus := hid hus;refine rS (aN h0 (aN e1 (aN e11 (aN e12 hu)))) ?_;refine brA_split (fun g => ?_) (fun g => ?_)
   ·refine rD (aN g (aN h0 (aN e1 (aN e11 (aN e12 hu))))) (ref_CheckCmd c) ?_;refine rN ?_;exact ends_int (by rw [<- hr2.out, if_neg (by have := hus.out; simp at g; simp; omega)]; rfl)
   ·refine rS (aN g (aN h0 (aN e1 (aN e11 (aN e12 hu))))) ?_;exact ends_int (by rw [<- hr2.out, if_pos (.inl (by have := hus.out; simp at g; simp; omega))])
theorem ref_Asks (h : S.Hand) (c : S.Cmd) : C Tryz.prog 64 [.agg (handC false h), .agg (cmdC false c)] (.tup [.agg (handC false (S.ask h c).1), Int' (S.ask h c).2]) [] := by
 obtain ⟨r, hr⟩ : ∃ r, S.ask h c = r := ⟨_, rfl⟩;rw [hr];unfold S.ask at hr;replace hr := hid hr;refine CI Tryz.func64 ?_;refine rC (ref_CheckHand h) ?_;refine rN ?_;by_cases h1 : S.checkHand h = 0
 rotate_left
 ·obtain rfl : r = (S.Hand.zero, S.checkHand h) := by rw [<- hr.out]; simp [h1]
  refine rS h1 ?_;exact ends_ag outL rfl
 refine rD h1 (ref_CheckCmd c) ?_;refine rN ?_;by_cases h2 : S.checkCmd c = 0
 rotate_left
 ·obtain rfl : r = (S.Hand.zero, S.checkCmd c) := by rw [<- hr.out]; simp [h1, h2]
  refine rS h2 ?_;exact ends_ag outL rfl
 refine rS h2 ?_;have hparts := hid (checkHand_parts h1);refine brA_split (fun h3 => ?_) (fun h3 => ?_)
 ·obtain rfl : r = (S.Hand.zero, 6) := by rw [<- hr.out]; simp [h1, h2, h3]
  refine rS h3 ?_;exact ends_ag outL rfl
 have hw : IntKind.i64.wrap (h.seq + 1) = h.seq + 1 := wrap_ok (by have := hparts.out.1; omega);refine rS h3 ?_;by_cases h4 : h.seq = 40
 ·obtain rfl : r = (S.Hand.zero, 2) := by rw [<- hr.out]; simp [h1, h2, h3, h4]
  have h4' : decide (40 <= h.seq) = true := by simp; omega
  refine rS h4' ?_;exact ends_ag outL rfl
 ·have h4' : decide (40 <= h.seq) = false := by have := hparts.out.1; simp; omega
  obtain rfl : r = (⟨h.seq + 1, true, c, h.got⟩, 0) := by rw [<- hr.out]; simp [h1, h2, h3, h4]
  clear hr;refine rS (aN h4' hw) ?_;exact ends_ag outL rfl
theorem own_outF {h : Heap} {i n : Nat} {ty : TypeId} {s : Nat} {rows rows' : List (List AV)} (hi : h i = some ⟨ty, s, rows⟩) (hn : n = rows.length) (hm : rows.mapM (fun (r : List AV) => r.mapM (leafP h [] 2)) = some rows') :
  outLeaf h [] (.own i 0 n) = some (.lst (rows.all fun r => r.all freshCell) s rows') := by
 subst hn
 have e2 : leafP h [] 3 (.own i 0 rows.length) = some (.lst false s rows') := by
  show (match h i with | some e => if 0 + rows.length <= e.rows.length then (((e.rows.drop 0).take rows.length).mapM fun (r : List AV) => r.mapM (leafP h [] 2)).map (AV.lst false e.s ·) else none | none => none) = _;rw [hi];simp only [List.drop_zero];rw [if_pos (by simp), List.take_of_length_le (by simp), hm];rfl
 show (match h i, leafP h [] 3 (.own i 0 rows.length) with | some e, some (.lst _ s rows) => some (AV.lst (e.rows.all fun r => r.all freshCell) s rows) | _, _ => none) = _;rw [hi, e2]
theorem OutL.answersF {h : Heap} {i n : Nat} {e : HE} {xs : List S.Answer} {cs ts : List AV} (hi : h i = some e) (he : e.s = 3 /\ e.rows = xs.map (ansC false)) (hn : n = xs.length) (g : OutL h cs ts) : OutL h (.own i 0 n :: cs) (.lst false 3 (xs.map (ansC false)) :: ts) := by
 have hi' : h i = some ⟨e.ty, 3, xs.map (ansC false)⟩ := by rw [hi, <- he.1, <- he.2]
 exact .cons (own_outF hi' (by simpa using hn) (mapM_map (f := ansC false) (g := fun (r : List AV) => r.mapM (leafP h [] 2)) (e := ansC false) (fun _ => rfl) xs)) (.lst (fun h => by cases h) (SubR.refl _)) g
theorem ref_Hears (h : S.Hand) (seq : Int) (a : S.Answer) : C Tryz.prog 61 [.agg (handC false h), Int' seq, .agg (ansC false a)] (.tup [.agg (handC false (S.hear h seq a).1), Int' (S.hear h seq a).2]) [] := by
 obtain ⟨r, hr⟩ : ∃ r, S.hear h seq a = r := ⟨_, rfl⟩;rw [hr];unfold S.hear at hr;replace hr := hid hr;refine CI Tryz.func61 ?_;refine rC (ref_CheckHand h) ?_;refine rN ?_;by_cases h1 : S.checkHand h = 0
 rotate_left
 ·obtain rfl : r = (S.Hand.zero, S.checkHand h) := by rw [<- hr.out]; simp [h1]
  refine rS h1 ?_;exact ends_ag outL rfl
 refine rD h1 (ref_CheckAnswer a) ?_;refine rN ?_;by_cases h2 : S.checkAnswer a = 0
 rotate_left
 ·obtain rfl : r = (S.Hand.zero, S.checkAnswer a) := by rw [<- hr.out]; simp [h1, h2]
  refine rS h2 ?_;exact ends_ag outL rfl
 refine rS h2 ?_;by_cases h3 : h.waits = true /\ seq = h.seq
 rotate_left
 ·obtain rfl : r = (h, 0) := by rw [<- hr.out]; simp [h1, h2]; intro g1 g2; exact absurd ⟨g1, g2⟩ h3
  have h3' : (!h.waits || !decide (h.seq = seq)) = true := by
   cases hw : h.waits
   ·rfl
   ·have : ¬ h.seq = seq := fun e => h3 ⟨hw, e.symm⟩
    simp [this]
  refine rS h3' ?_;exact ends_ag outL rfl
 obtain ⟨h3, rfl⟩ := h3;obtain rfl : r = (⟨h.seq, false, S.Cmd.zero, h.got ++ [a]⟩, 0) := by rw [<- hr.out]; simp [h1, h2, h3]
 clear hr;have hgl := (small_of_check h1).2.1;have d1 : decide (100000000 < h.got.length) = false := by simp; omega
 have d2 : h.got.length <= 100000000 := by omega
 have hcl := clone_answers (h.got.map (ansC false)) (by simp; omega) (plain_map (fun _ => rfl) _);simp only [List.length_map] at hcl;replace hcl := hid hcl;refine rD h3 hcl.out ?_;refine rS (aN d1 d2) ?_;exact ends_ag (.at (.at (.at (.at (.at (.at (.nl (OutL.answersF rfl ⟨rfl, by simp⟩ (by simp) (OutL.nil _))))))))) rfl
end Go.Proofs.YtadmfokicjjglaaGreatDoor.E
