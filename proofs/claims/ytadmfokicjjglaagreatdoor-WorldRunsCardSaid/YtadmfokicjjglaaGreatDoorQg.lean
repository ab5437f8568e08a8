
/- Qg: ref.Happened. -/
import Derived.Test.YtadmfokicjjglaaGreatDoorQh
import Derived.Test.YtadmfokicjjglaaGreatDoorX3
namespace Go.Proofs.YtadmfokicjjglaaGreatDoor.E
open Go.RowKit Go.Proofs
set_option linter.unusedVariables false
set_option linter.unusedSimpArgs false
set_option maxRecDepth 100000
set_option maxHeartbeats 4000000
theorem ref_Happened (w : S.World) (x : S.Hap) {l : List S.Rec} (hok : OkW w l) : C Tryz.prog 14 [.agg (worldC false w), .agg (hapC false x)] (happR (S.happen w x)) [] := by
 by_cases k1 : x.kind = 3 \/ x.kind = 4 \/ x.kind = 5
 ·have g := ref_Happened_hear w x hok k1;have e : S.happen w x = S.hearMail w x := by unfold S.happen; rw [if_pos k1]
  rw [e];exact g
 have o1 := hok.hand3;have o2 := hok.mail30;have o3 := hok.hands;have o4 := hok.mails;obtain ⟨H, d, up, hand, mail⟩ := w;obtain ⟨kind, who, n, c⟩ := x;replace hok := hid hok;simp only at o1 o2 o3 o4 k1;obtain ⟨u, hu⟩ : ∃ u, u = S.happen ⟨H, d, up, hand, mail⟩ ⟨kind, who, n, c⟩ := ⟨_, rfl⟩;rw [<- hu];unfold S.happen at hu;simp only at hu;have ch := clone_hands (hand.map (handC false)) (by simp; omega) (plain_map (fun _ => rfl) _);have cm := clone_mails (mail.map (mailC false)) (by simp; omega) (plain_map (fun _ => rfl) _);rw [List.length_map] at ch cm;replace ch := hid ch;replace cm := hid cm;have cb := fun e => ref_Happened_bad e
 replace cb := hid cb;refine C_of (S := Sub) (fun h hv => Sub.v h hv) [] (by decide) rfl rfl rfl (CS_inlineZ (typesOk _) [(34, [16169]), (49, [18222])] 13 12 none Tryz.func14 (fun _ _ => by kernel_rfl) rfl (by kernel_rfl) (Nat.le_of_ble_eq_true rfl) ?_);refine rC ch.out ?_;refine rC cm.out ?_;by_cases k2 : kind = 6 \/ kind = 7
 ·rw [if_neg k1, if_pos k2] at hu;unfold S.power at hu;rcases k2 with rfl | rfl
  ·cases up with
   | false =>
    refine rC (cb.out 6) ?_;refine rN ?_;rw [hu];exact happ_bad (n := 0) (by decide)
   | true =>
    refine rC ref_FreshHall ?_;refine rN ?_;rw [hu];exact happ_ok (n := 0) (v := ⟨S.Hall.new, d, false, hand, mail⟩) rfl rfl (.hands _) (.mails _) (by simp) (by simp)
  ·cases up with
   | true =>
    refine rC (cb.out 6) ?_;refine rN ?_;rw [hu];exact happ_bad (n := 0) (by decide)
   | false =>
    have hcd := okW_disk hok.out;simp only at hcd;have cv := ref_Recovered d hcd;have her := recover_err d;rw [hcd] at her;obtain ⟨⟨X, L, e⟩, hR⟩ : ∃ q, S.recoverDisk d = q := ⟨_, rfl⟩;rw [hR] at cv her;simp only at cv her;subst her;obtain ⟨⟨G, f⟩, hG⟩ : ∃ q, S.replay L = q := ⟨_, rfl⟩;obtain ⟨told, cp⟩ := hallOf1_eq hG;simp only [hR, hG] at hu;replace cv := hid cv;replace cp := hid cp;clear hR hG hcd;by_cases hf : f = 0
    ·subst hf;refine rC cv.out ?_;refine rC cp.out ?_;refine rN ?_;have hu2 : u = (⟨G, X, true, hand, mail⟩, 0) := by rw [hu]; simp
     rw [hu2];exact happ_ok (n := 0) (v := ⟨G, X, true, hand, mail⟩) rfl rfl (.hands _) (.mails _) (by simp) (by simp)
    ·have hf' : decide (f = 0) = false := by simp [hf]
     refine rC cv.out ?_;refine rC cp.out ?_;refine rD hf' (cb.out f) ?_;refine rN ?_;have hu2 : u = (⟨H, d, false, hand, mail⟩, f) := by rw [hu]; simp [hf]
     rw [hu2];exact happ_bad (n := 0) hf
 rw [if_neg k1, if_neg k2] at hu;have e3 : decide (kind = 3) = false := by simp; omega
 have e4 : decide (kind = 4) = false := by simp; omega
 have e5 : decide (kind = 5) = false := by simp; omega
 have e6 : decide (kind = 6) = false := by simp; omega
 have e7 : decide (kind = 7) = false := by simp; omega
 by_cases k3 : kind ≠ 1 /\ kind ≠ 2
 ·rw [if_pos k3] at hu;have e1 : decide (kind = 1) = false := by simp; omega
  have e2 : decide (kind = 2) = false := by simp; omega
  refine rD (aN e1 (aN e2 (aN e3 (aN e4 (aN e5 (aN e6 e7)))))) (cb.out 4) ?_;refine rN ?_;rw [hu];exact happ_bad (n := 0) (by decide)
 rw [if_neg k3] at hu;have hin := ref_in who 0 2;by_cases k4 : 0 <= who /\ who <= 2
 rotate_left
 ·have ew : (decide (0 <= who) && decide (who <= 2)) = false := by simp; omega
  rw [ew] at hin;replace hin := hid hin;rw [if_pos (by omega)] at hu;have k5 : kind = 1 \/ kind = 2 := by omega
  clear e3 e4 e5 e6 e7 k1 k2 k3;rcases k5 with rfl | rfl
  ·refine rC hin.out ?_;refine rC (cb.out 5) ?_;refine rN ?_;rw [hu];exact happ_bad (n := 0) (by decide)
  ·refine rC hin.out ?_;refine rC (cb.out 5) ?_;refine rN ?_;rw [hu];exact happ_bad (n := 0) (by decide)
 have ew : (decide (0 <= who) && decide (who <= 2)) = true := by simp; omega
 rw [ew] at hin;replace hin := hid hin;rw [if_neg (by omega)] at hu;obtain ⟨W, rfl⟩ : ∃ W : Nat, who = W := ⟨who.toNat, by omega⟩;obtain ⟨z, hz⟩ : ∃ z, hand[W]? = some z := ⟨hand[W]'(by omega), by simp⟩;have hzd : hand.getD ((W : Int)).toNat S.Hand.zero = z := by simp only [Int.toNat_natCast]; exact getD_of hz
 have hWl : W < hand.length := by omega
 simp only [Int.toNat_natCast] at hzd hu;rw [hzd] at hu;have k5 : kind = 1 \/ kind = 2 := by omega
 clear e3 e4 e5 e6 e7 k1 k2 k3 ew hzd;rcases k5 with rfl | rfl
 ·rw [if_pos rfl] at hu;have ca := ref_Asks z c;obtain ⟨⟨Z, e⟩, hA⟩ : ∃ q, S.ask z c = q := ⟨_, rfl⟩;rw [hA] at ca hu;simp only at ca hu;replace ca := hid ca;by_cases he : e = 0
  rotate_left
  ·rw [if_pos he] at hu;have he' : decide (e = 0) = false := by simp [he]
   refine rC hin.out ?_;refine rD (aN hz hWl) ca.out ?_;refine rD (aN he' (aN hz hWl)) (cb.out e) ?_;refine rN ?_;rw [hu];exact happ_bad (n := 0) he
  subst he;rw [if_neg (by simp)] at hu
  have hZw : Z.waits = true := by
   have := ask_ok (h := z) (c := c) (by rw [hA]);rw [hA] at this;rw [(Prod.mk.inj this.1).1]
  unfold S.post at hu;simp only at hu;by_cases hm : mail.length < 30
  ·rw [if_pos hm] at hu;have hm' : decide ((mail.length : Int) < 30) = true := by simp; omega
   have hm2 : decide (mail.length <= 100000000) = true := by simp; omega
   refine rC hin.out ?_;refine rD (aN hz hWl) ca.out ?_;refine rS (aN hz (aN hWl hZw)) ?_;refine CSI Tryz.func59 ?_;refine rS (aN hm' hm2) ?_;rw [hu];refine happ_ok (n := 0) (t1 := 85) (t2 := 78) (v := ⟨H, d, up, hand.set W Z, mail ++ [⟨false, W, Z.seq, Z.c, S.Answer.zero⟩]⟩) ?_ ?_ ((RowsAs.hands hand).set (k := W) (x := Z) (row := [Int' Z.seq, Bool' true, Int' Z.c.kind, Int' Z.c.z, Int' Z.c.n, Int' Z.c.pos, .lst false 1 (I Z.c.d), .lst false 3 (Z.got.map (ansC false))]) rfl (sub_handW hZw)) ((RowsAs.mails _).snoc rfl sub_new) ?_ ?_
   ·rfl
   ·rfl
   ·simp
   ·simp
  ·rw [if_neg hm] at hu;have hm' : decide ((mail.length : Int) < 30) = false := by simp; omega
   refine rC hin.out ?_;refine rD (aN hz hWl) ca.out ?_;refine rS (aN hz (aN hWl hZw)) ?_;refine CSI Tryz.func59 ?_;refine rS hm' ?_;rw [hu];have g := fun h h1 h2 => happ_ok (h := h) (n := 388) (v := ⟨H, d, up, hand.set W Z, mail⟩) (i := 36) (j := 48) (m := hand.length) (k := mail.length) (a := false) (b := false) (c := false) (s := false) (r := false) (t1 := 85) (t2 := 78) (rows1 := (hand.map (handC false)).set W [Int' Z.seq, Bool' true, Int' Z.c.kind, Int' Z.c.z, Int' Z.c.n, Int' Z.c.pos, .lst false 1 (I Z.c.d), .lst false 3 (Z.got.map (ansC false))]) (rows2 := mail.map (mailC false)) h1 h2 ((RowsAs.hands hand).set rfl (sub_handW hZw)) (RowsAs.mails _) (by simp) (by simp)
   exact g _ rfl rfl
 ·rw [if_neg (by decide)] at hu;cases hzw : z.waits with
  | false =>
   rw [if_pos hzw] at hu;refine rC hin.out ?_;refine rD (aN hz (aN hWl hzw)) (cb.out 6) ?_;refine rN ?_;rw [hu];exact happ_bad (n := 0) (by decide)
  | true =>
   rw [if_neg (by simp [hzw])] at hu;unfold S.post at hu;simp only at hu;by_cases hm : mail.length < 30
   ·rw [if_pos hm] at hu;have hm' : decide ((mail.length : Int) < 30) = true := by simp; omega
    have hm2 : decide (mail.length <= 100000000) = true := by simp; omega
    refine rC hin.out ?_;refine rS (aN hz (aN hWl hzw)) ?_;refine CSI Tryz.func59 ?_;refine rS (aN hm' hm2) ?_;rw [hu];have g := fun h h1 h2 => happ_ok (h := h) (n := 312) (v := ⟨H, d, up, hand, mail ++ [⟨false, W, z.seq, z.c, S.Answer.zero⟩]⟩) (i := 36) (j := 288) (m := hand.length) (k := mail.length + 1) (a := false) (b := false) (c := false) (s := false) (r := false) (t1 := 85) (t2 := 78) (rows1 := hand.map (handC false)) (rows2 := mail.map (mailC false) ++ [[.at (.bool false), Int' W, Int' z.seq, Int' z.c.kind, Int' z.c.z, Int' z.c.n, Int' z.c.pos, .lst false 1 (I z.c.d), Int' 0, Int' 0, .nl]]) h1 h2 (.hands _) ((RowsAs.mails _).snoc rfl sub_new) (by simp) (by simp)
    exact g _ rfl rfl
   ·rw [if_neg hm] at hu;have hm' : decide ((mail.length : Int) < 30) = false := by simp; omega
    refine rC hin.out ?_;refine rS (aN hz (aN hWl hzw)) ?_;refine CSI Tryz.func59 ?_;refine rS hm' ?_;rw [hu];exact happ_ok (n := 0) (v := ⟨H, d, up, hand, mail⟩) rfl rfl (.hands _) (.mails _) (by simp) (by simp)
end Go.Proofs.YtadmfokicjjglaaGreatDoor.E
