
/- Qx: law.WorldRuns. -/
import Derived.Test.YtadmfokicjjglaaGreatDoorQw
import Derived.Test.YtadmfokicjjglaaGreatDoorX3
namespace Go.Proofs.YtadmfokicjjglaaGreatDoor.E
open Go.RowKit Go.Proofs
set_option linter.unusedVariables false
set_option linter.unusedSimpArgs false
set_option maxRecDepth 100000
set_option maxHeartbeats 4000000
def RunR (h : Heap) (n : Nat) (v : AV) (l : List S.Hap) (q : S.World × List Int) : Prop :=
 ∃ (w : S.World) (said : List Int), h 0 = some ⟨37, 10, [worldC false w]⟩ /\ h 36 = some ⟨37, 10, [worldC true q.1]⟩ /\ S.checkWorld w = 0 /\
  ((said = [] /\ v = .nl) \/ ∃ y, v = .own y 0 said.length /\ 36 < y /\ y < n /\ h y = some ⟨42, 1, I said⟩) /\ said.length + l.length <= 120 /\ (S.script w l).1 = q.1 /\ said ++ (S.script w l).2 = q.2
theorem script_lenR : ∀ (l : List S.Hap) (w : S.World), (S.script w l).2.length = l.length
 | [], w => rfl
 | x :: l, w => by rw [script_cons]; simp only [List.length_cons, script_lenR l]
theorem view_errs {h : Heap} {y : Nat} {said : List Int} (hy : h y = some ⟨42, 1, I said⟩) : [AV.lst true 1 (I said), AV.own y 0 said.length].mapM (viewV h) = some [.lst false 1 (I said), .lst false 1 (I said)] := by
 have e : leafV h (.own y 0 said.length) = some (.lst false 1 (I (said.drop 0))) := own_view hy (by simp);rw [List.drop_zero] at e;have e3 : viewV h (.own y 0 said.length) = some (.lst false 1 (I said)) := e;have e4 : viewV h (.lst true 1 (I said)) = some (.lst false 1 (I said)) := rfl;rw [List.mapM_cons, e4, List.mapM_cons, e3];rfl
theorem law_WorldRuns (w : S.World) (l : List S.Hap) : C Tryz.prog 5 [.agg (worldC false w), .lst false 8 (l.map (hapC false))] (Bool' true) [] := by
 have c2 := ref_CheckWorld w;by_cases hc : S.checkWorld w = 0
 rotate_left
 ·have hr : S.runWorld w l = (S.World.zero, [], S.checkWorld w) := by unfold S.runWorld; rw [if_pos hc]
  obtain ⟨y, hy⟩ : ∃ y, y = S.World.zero := ⟨_, rfl⟩;rw [<- hy] at hr;have c1 := hid (runW_eq hr);have c3 := hid (same_worldZ hy);clear hr hy;generalize S.checkWorld w = e at *;have hc' : decide (e = 0) = false := by simp [hc]
  replace c2 := hid c2;refine CI Tryz.func5 ?_;refine rC c1.out ?_;refine rC c2.out ?_;refine rD (aN hc' hc) law_asked ?_;refine rD (aN hc' hc) law_asked ?_;refine rD (aN hc' hc) c3.out ?_;refine rN ?_;exact ends_bool rfl
 rw [hc] at c2;replace c2 := hid c2;by_cases hl : 120 < l.length
 ·have hr : S.runWorld w l = (S.World.zero, [], 2) := by unfold S.runWorld; rw [if_neg (by simp [hc]), if_pos hl]
  obtain ⟨y, hy⟩ : ∃ y, y = S.World.zero := ⟨_, rfl⟩;rw [<- hy] at hr;have c1 := hid (runW_eq hr);have c3 := hid (same_worldZ hy);have hl' : decide ((120 : Int) < (l.length : Int)) = true := by simp; omega
  have hl'' : decide (120 < l.length) = true := by simp; omega
  clear hr hy hc;refine CI Tryz.func5 ?_;refine rC c1.out ?_;refine rC c2.out ?_;refine rD (aN hl' hl'') law_asked ?_;refine rC law_asked ?_;refine rC c3.out ?_;refine rN ?_;exact ends_bool rfl
 have hl' : decide ((120 : Int) < (l.length : Int)) = false := by simp; omega
 have hl'' : decide (120 < l.length) = false := by simp; omega
 obtain ⟨q, hq⟩ : ∃ q, S.script w l = q := ⟨_, rfl⟩;have hr : S.runWorld w l = (q.1, q.2, 0) := by unfold S.runWorld; rw [if_neg (by simp [hc]), if_neg hl, hq]
 have hq2' : q.2.length <= 100000000 := by rw [<- hq, script_lenR]; omega
 have c1 := hid (runW_eq hr);have hq' := hid hq;have hc' := hid hc;clear hr hq hc;refine CI Tryz.func5 ?_;refine rC c1.out ?_;refine rC c2.out ?_;refine rD (aN hl' hl'') law_asked ?_;refine rN ?_;refine loop_count 54 l.length (fun k h n t => RunR h n (t 9) (l.drop k) q /\ ∃ d, n = d + 132) _ rfl (by rfl) ⟨⟨w, [], rfl, rfl, hc'.out, .inl ⟨rfl, rfl⟩, by simp; omega, by rw [List.drop_zero, hq'.out], by rw [List.drop_zero, hq'.out]; rfl⟩, ⟨0, rfl⟩⟩ ?_ ?_
 ·rintro k t h n hk hci hs ⟨⟨w1, said, h0, h36, hcw, hsd, hle, hq1, hq2⟩, d, rfl⟩;have hw : IntKind.i64.wrap ((k : Int) + 1) = (k : Int) + 1 := wrap_ok (by omega);obtain ⟨x, hx⟩ : ∃ x, l[k]? = some x := ⟨l[k], by simp⟩;have hk' : decide (k < l.length) = true := by simp [hk]
  rw [drop_cons hx] at hq1 hq2 hle;rw [script_cons] at hq1 hq2;obtain ⟨⟨v, e⟩, hv⟩ : ∃ p, S.happen w1 x = p := ⟨_, rfl⟩;rw [hv] at hq1 hq2;obtain ⟨L1, hok1⟩ := check_okW hcw;have cc := ref_happen_eq hok1 hv
  have hokv : e = 0 -> S.checkWorld v = 0 := fun g => by
   subst g;obtain ⟨L2, h2⟩ := okW_happen hok1 hv;exact okW_check h2
  simp only [List.length_cons] at hle;obtain ⟨sv, hsv⟩ : ∃ sv, t 9 = sv := ⟨_, rfl⟩;rw [hsv] at hsd;clear c1 c2 hc' hok1 hv;have e2 := hs 2 rfl;have e5 := hs 5 rfl;have e6 := hs 6 rfl;have e7 := hs 7 rfl;have e52 := hs 52 rfl;have e53 := hs 53 rfl;clear hs;simp -dsimp -implicitDefEqProofs at e2 e5 e6 e7 e52 e53;have dd1 : decide (100000000 < 1) = false := by decide
  have dd2 : said.length <= 100000000 := by omega
  have dd3 : (I said).take said.length = I said := List.take_of_length_le (by simp);have dd4 : I said ++ [[.at (.int .i64 e)]] = I (said ++ [e]) := by simp [I]
  replace hk := hid hk;replace hle := hid hle;unfold happR at cc;simp only at hq1 hq2 cc;by_cases he : e = 0
  ·subst he;have hcv := hokv rfl;simp only [if_true] at hq1 hq2 cc;replace hq1 := hid hq1;replace hq2 := hid hq2;replace cc := hid cc;rcases hsd with ⟨hs0, hs1⟩ | ⟨y, hs1, y4, yn, hy⟩
   ·subst hs0 hs1;refine rD (aN e2 (aN e5 (aN e6 (aN e7 (aN e52 (aN e53 (aN hci (aN hk' (aN hx (aN h0 (aN h36 hsv))))))))))) cc.out ?_;refine rS (aN e2 (aN e5 (aN e6 (aN e7 (aN e52 (aN e53 (aN hci (aN hw (aN hk' (aN hx (aN h0 (aN h36 (aN hsv dd1))))))))))))) ?_
    first
     | exact ⟨v, [0], by repeat (first | exact upd_same _ _ _ | exact h0 | rw [upd_ne _ _ (by omega)]), by repeat (first | exact upd_same _ _ _ | exact h36 | rw [upd_ne _ _ (by omega)]), hcv, .inr ⟨_, rfl, by omega, by omega, by repeat (first | exact upd_same _ _ _ | exact h0 | rw [upd_ne _ _ (by omega)])⟩, by have := hle.out; simp at this ⊢; omega, hq1.out, hq2.out⟩
     | exact ⟨⟨v, [0], by repeat (first | exact upd_same _ _ _ | exact h0 | rw [upd_ne _ _ (by omega)]), by repeat (first | exact upd_same _ _ _ | exact h36 | rw [upd_ne _ _ (by omega)]), hcv, .inr ⟨_, rfl, by omega, by omega, by repeat (first | exact upd_same _ _ _ | exact h0 | rw [upd_ne _ _ (by omega)])⟩, by have := hle.out; simp at this ⊢; omega, hq1.out, hq2.out⟩, ⟨_, by omega⟩⟩
   ·subst hs1;have y0 : ¬ y = 0 := by omega
    have y36 : ¬ y = 36 := by omega
    refine rD (aN e2 (aN e5 (aN e6 (aN e7 (aN e52 (aN e53 (aN hci (aN hk' (aN hx (aN h0 (aN h36 hsv))))))))))) cc.out ?_;refine rS (aN e2 (aN e5 (aN e6 (aN e7 (aN e52 (aN e53 (aN hci (aN hw (aN hk' (aN hx (aN h0 (aN h36 (aN hsv (aN hy (aN y0 (aN dd1 (aN dd2 (aN dd3 (far yn))))))))))))))))))) ?_
    first
     | exact ⟨v, said ++ [0], by repeat (first | exact upd_same _ _ _ | exact h0 | rw [upd_ne _ _ (by omega)]), by repeat (first | exact upd_same _ _ _ | exact h36 | rw [upd_ne _ _ (by omega)]), hcv, .inr ⟨_, by rw [List.length_append]; rfl, by omega, by omega, by rw [<- dd4]; exact upd_same _ _ _⟩, by have := hle.out; simp at this ⊢; omega, hq1.out, by rw [List.append_assoc]; exact hq2.out⟩
     | exact ⟨⟨v, said ++ [0], by repeat (first | exact upd_same _ _ _ | exact h0 | rw [upd_ne _ _ (by omega)]), by repeat (first | exact upd_same _ _ _ | exact h36 | rw [upd_ne _ _ (by omega)]), hcv, .inr ⟨_, by rw [List.length_append]; rfl, by omega, by omega, by rw [<- dd4]; exact upd_same _ _ _⟩, by have := hle.out; simp at this ⊢; omega, hq1.out, by rw [List.append_assoc]; exact hq2.out⟩, ⟨_, by omega⟩⟩
  ·simp only [if_neg he] at hq1 hq2 cc;replace hq1 := hid hq1;replace hq2 := hid hq2;replace cc := hid cc;rcases hsd with ⟨hs0, hs1⟩ | ⟨y, hs1, y4, yn, hy⟩
   ·subst hs0 hs1;refine rD (aN e2 (aN e5 (aN e6 (aN e7 (aN e52 (aN e53 (aN hci (aN hk' (aN hx (aN h0 (aN h36 hsv))))))))))) cc.out ?_;refine rS (aN e2 (aN e5 (aN e6 (aN e7 (aN e52 (aN e53 (aN hci (aN hw (aN hk' (aN hx (aN h0 (aN h36 (aN hsv (aN he dd1)))))))))))))) ?_
    first
     | exact ⟨w1, [e], by repeat (first | exact upd_same _ _ _ | exact h0 | rw [upd_ne _ _ (by omega)]), by repeat (first | exact upd_same _ _ _ | exact h36 | rw [upd_ne _ _ (by omega)]), hcw, .inr ⟨_, rfl, by omega, by omega, by repeat (first | exact upd_same _ _ _ | exact h0 | rw [upd_ne _ _ (by omega)])⟩, by have := hle.out; simp at this ⊢; omega, hq1.out, hq2.out⟩
     | exact ⟨⟨w1, [e], by repeat (first | exact upd_same _ _ _ | exact h0 | rw [upd_ne _ _ (by omega)]), by repeat (first | exact upd_same _ _ _ | exact h36 | rw [upd_ne _ _ (by omega)]), hcw, .inr ⟨_, rfl, by omega, by omega, by repeat (first | exact upd_same _ _ _ | exact h0 | rw [upd_ne _ _ (by omega)])⟩, by have := hle.out; simp at this ⊢; omega, hq1.out, hq2.out⟩, ⟨_, by omega⟩⟩
   ·subst hs1;have y0 : ¬ y = 0 := by omega
    have y36 : ¬ y = 36 := by omega
    refine rD (aN e2 (aN e5 (aN e6 (aN e7 (aN e52 (aN e53 (aN hci (aN hk' (aN hx (aN h0 (aN h36 hsv))))))))))) cc.out ?_;refine rS (aN e2 (aN e5 (aN e6 (aN e7 (aN e52 (aN e53 (aN hci (aN hw (aN hk' (aN hx (aN h0 (aN h36 (aN hsv (aN he (aN hy (aN y0 (aN dd1 (aN dd2 (aN dd3 (far yn)))))))))))))))))))) ?_
    first
     | exact ⟨w1, said ++ [e], by repeat (first | exact upd_same _ _ _ | exact h0 | rw [upd_ne _ _ (by omega)]), by repeat (first | exact upd_same _ _ _ | exact h36 | rw [upd_ne _ _ (by omega)]), hcw, .inr ⟨_, by rw [List.length_append]; rfl, by omega, by omega, by rw [<- dd4]; exact upd_same _ _ _⟩, by have := hle.out; simp at this ⊢; omega, hq1.out, by rw [List.append_assoc]; exact hq2.out⟩
     | exact ⟨⟨w1, said ++ [e], by repeat (first | exact upd_same _ _ _ | exact h0 | rw [upd_ne _ _ (by omega)]), by repeat (first | exact upd_same _ _ _ | exact h36 | rw [upd_ne _ _ (by omega)]), hcw, .inr ⟨_, by rw [List.length_append]; rfl, by omega, by omega, by rw [<- dd4]; exact upd_same _ _ _⟩, by have := hle.out; simp at this ⊢; omega, hq1.out, by rw [List.append_assoc]; exact hq2.out⟩, ⟨_, by omega⟩⟩
 ·rintro t h n hci hs ⟨⟨w1, said, h0, h36, hcw, hsd, hle, hq1, hq2⟩, d, rfl⟩;rw [List.drop_length] at hq1 hq2;simp only [S.script, List.append_nil] at hq1 hq2;obtain ⟨qw, qs⟩ := q;simp only at hq1 hq2 h36 hq2';subst hq1 hq2;obtain ⟨sv, hsv⟩ : ∃ sv, t 9 = sv := ⟨_, rfl⟩;rw [hsv] at hsd;clear c1 c2;have e2 := hs 2 rfl;have e5 := hs 5 rfl;have e6 := hs 6 rfl;have e7 := hs 7 rfl;have e52 := hs 52 rfl;have e53 := hs 53 rfl;clear hs;simp -dsimp -implicitDefEqProofs at e2 e5 e6 e7 e52 e53;have ce := equal_errs said said hq2';rw [decide_eq_true rfl] at ce;have cw := hid (same_world1 w1);rcases hsd with ⟨hs0, hs1⟩ | ⟨y, hs1, y4, yn, hy⟩
  ·have ce' : C Tryz.prog 30 [.lst false 1 (I []), .nl] (.at (.bool true)) [] := by
    subst hs0;exact ce.args (.cons (.refl _) (.cons (.leaf .nl) (.nil _)))
   subst hs0 hs1;replace ce' := hid ce';clear ce;refine rD (aN e2 (aN e5 (aN e6 (aN e7 (aN e52 (aN e53 (aN hci (aN h0 (aN h36 hsv))))))))) ce'.out ?_;refine rD (aN e2 (aN e5 (aN e6 (aN e7 (aN e52 (aN e53 (aN hci (aN h0 (aN h36 hsv))))))))) cw.out ?_;refine rN ?_;exact ends_bool rfl
  ·subst hs1;replace ce := hid ce;have y0 : ¬ y = 0 := by omega
   have y36 : ¬ y = 36 := by omega
   refine rS (aN e2 (aN e5 (aN e6 (aN e7 (aN e52 (aN e53 (aN hci (aN h0 (aN h36 (aN hsv (aN hy (aN y0 (aN y36 (far yn)))))))))))))) ?_;refine call_CC (ce.out) ?_ (view_errs hy);refine rD (aN e2 (aN e5 (aN e6 (aN e7 (aN e52 (aN e53 (aN hci (aN h0 (aN h36 (aN hsv (aN hy (aN y0 (aN y36 (far yn)))))))))))))) cw.out ?_;refine rN ?_;exact ends_bool rfl
end Go.Proofs.YtadmfokicjjglaaGreatDoor.E
