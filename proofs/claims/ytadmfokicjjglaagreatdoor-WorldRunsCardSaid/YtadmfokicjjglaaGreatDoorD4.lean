/- D4: Dc: desk.Do. Dd: desks in plain data: what a command leaves. He: closed facts of hands; law.HandWaits, law.HandTurns. De: law.served, law.DeskMay, law.DeskReads. -/
import Derived.Test.YtadmfokicjjglaaGreatDoorD1
import Derived.Test.YtadmfokicjjglaaGreatDoorX4
import Derived.Test.YtadmfokicjjglaaGreatDoorSp
import Derived.Test.YtadmfokicjjglaaGreatDoorX3
import Derived.Test.YtadmfokicjjglaaGreatDoorY2
import Derived.Test.YtadmfokicjjglaaGreatDoorL1
import Derived.Test.YtadmfokicjjglaaGreatDoorHd
namespace Go.Proofs.YtadmfokicjjglaaGreatDoor.E
open Go.RowKit Go.Proofs
set_option maxRecDepth 100000
set_option maxHeartbeats 1000000
set_option linter.unusedSimpArgs false
set_option linter.unusedVariables false
theorem desk_zones (zs : List S.Zone) (c : S.Cmd) (hk : 1 <= c.kind /\ c.kind <= 6) (hz : 0 <= c.z) : C Tryz.prog 157 [.lst false 2 (zs.map (zoneC false)), .agg (cmdC false c)] (.tup [.lst true 2 ((S.deskZones zs c).1.map (zoneC false)), .agg (ansC true (S.deskZones zs c).2)]) [] := by
 obtain ⟨k, z, n, p, d⟩ := c;simp only at hk hz;rcases (by omega : k = 1 \/ k = 2 \/ k = 3 \/ k = 4 \/ k = 5 \/ k = 6) with rfl | rfl | rfl | rfl | rfl | rfl
 ·simpa [S.deskZones] using desk_zones1 zs z n p d
 ·simpa [S.deskZones] using desk_zones2 zs z n p d
 ·simpa [S.deskZones] using desk_zones3 zs z n p d
 ·simpa [S.deskZones] using desk_zones4 zs z n p d
 ·simpa [S.deskZones] using desk_zones5 zs z n p d
 ·exact desk_zones6 zs z n p d hz
structure Small (d : S.Desk) : Prop where
 n : d.zs.length = 4
 z : ∀ z, z ∈ d.zs -> z.d.length <= 8
 k : d.b.k.length = 3
theorem small_of {d : S.Desk} (h : S.checkDesk d = 0) : Small d /\ S.checkZones d.zs = 0 /\ S.checkBook d.b = 0 := by
 unfold S.checkDesk at h;split at h
 ·rename_i g; exact absurd h g
 ·rename_i g;have g : S.checkZones d.zs = 0 := by simpa using g
  refine ⟨⟨?_, fun z hz => ?_, ?_⟩, g, h⟩
  ·unfold S.checkZones at g;split at g
   ·cases g
   ·rename_i g2; simpa using g2
  ·unfold S.checkZones at g;split at g
   ·cases g
   ·split at g
    ·rename_i g2; exact absurd g g2
    ·rename_i g2;have := firstBad_zero (by simpa using g2) z hz;unfold S.checkZone at this;split at this
     ·cases this
     ·split at this
      ·cases this
      ·rename_i g3; omega
  ·unfold S.checkBook at h;split at h
   ·cases h
   ·rename_i g2; simpa using g2
theorem desk_Copy (d : S.Desk) (h : Small d) : C Tryz.prog 111 [.agg (deskC false d)] (.agg (deskC true d)) [] := by
 obtain ⟨zs, b⟩ := d;have h1 := hid (yard_Copy zs (by have := h.n; simp only at this; omega) (fun z hz => by have := h.z z hz; omega));have h2 := hid (book_Copy b (by have := h.k; simp only at this; omega));clear h;refine CI Tryz.func111 ?_;refine rC h1.out ?_;refine rC h2.out ?_;refine rN ?_;exact ends_agg outL
theorem ends_aai {h : Heap} {n : Nat} {c1 t1 c2 t2 : List AV} {e e' : Int} (h1 : OutL h c1 t1) (h2 : OutL h c2 t2) (he : e = e') : Ends [] (.tup [.agg t1, .agg t2, Int' e']) [] h n (.tup [.agg c1, .agg c2, Int' e]) := by
 subst he;obtain ⟨c1', o1, s1⟩ := h1;obtain ⟨c2', o2, s2⟩ := h2;refine ⟨⟨.tup [.agg c1', .agg c2', Int' e], ?_, .tup (.cons (.agg s1) (.cons (.agg s2) (.cons (.refl _) (.nil _))))⟩, rfl⟩
 have e1 : outAgg h [] (.agg c1) = some (.agg c1') := by
  show (c1.mapM (outLeaf h [])).map AV.agg = _;rw [o1]; rfl
 have e2 : outAgg h [] (.agg c2) = some (.agg c2') := by
  show (c2.mapM (outLeaf h [])).map AV.agg = _;rw [o2]; rfl
 show (List.mapM (outAgg h []) [.agg c1, .agg c2, Int' e]).map AV.tup = _;rw [List.mapM_cons, e1, List.mapM_cons, e2];rfl
abbrev doR (r : S.Desk × S.Answer × Int) : AV := .tup [.agg (deskC true r.1), .agg (ansC true r.2.1), Int' r.2.2]
theorem desk_Do_bad1 (d : S.Desk) (who : Int) (c : S.Cmd) (h : S.checkDesk d ≠ 0) : C Tryz.prog 122 [.agg (deskC false d), Int' who, .agg (cmdC false c)] (doR (S.Desk.zero, S.Answer.zero, S.checkDesk d)) [] := by
 have h1 := hid (desk_Check d);generalize S.checkDesk d = e at *;refine CG [(18, [16006])] Tryz.func122 ?_;refine rC h1.out ?_;refine rS h ?_;exact ends_aai outL outL rfl
theorem desk_Do_bad2 (d : S.Desk) (who : Int) (c : S.Cmd) (h : S.checkDesk d = 0) (hw : who < 0 \/ 3 <= who) : C Tryz.prog 122 [.agg (deskC false d), Int' who, .agg (cmdC false c)] (doR (S.Desk.zero, S.Answer.zero, 5)) [] := by
 have h1 := hid (h ▸ desk_Check d);clear h;have cs : decide (who < 0) = true \/ (decide (who < 0) = false /\ decide (3 <= who) = true) := by simp; omega
 clear hw;rcases cs with c1 | ⟨c1, c2⟩
 ·refine CG [(18, [16006])] Tryz.func122 ?_;refine rC h1.out ?_;refine rS c1 ?_;exact ends_aai outL outL rfl
 ·refine CG [(18, [16006])] Tryz.func122 ?_;refine rC h1.out ?_;refine rS (aN c1 c2) ?_;exact ends_aai outL outL rfl
theorem desk_Do_bad3 (d : S.Desk) (who : Int) (c : S.Cmd) (h : S.checkDesk d = 0) (hw : 0 <= who /\ who < 3) (hc : S.checkCmd c ≠ 0) : C Tryz.prog 122 [.agg (deskC false d), Int' who, .agg (cmdC false c)] (doR (S.Desk.zero, S.Answer.zero, S.checkCmd c)) [] := by
 have h1 := hid (h ▸ desk_Check d);clear h;have c1 : decide (who < 0) = false := by simp; omega
 have c2 : decide (3 <= who) = false := by simp; omega
 have h2 := hid (cmd_Check c);generalize S.checkCmd c = e at *;clear hw;refine CG [(18, [16006])] Tryz.func122 ?_;refine rC h1.out ?_;refine rD (aN c1 c2) h2.out ?_;refine rS hc ?_;exact ends_aai outL outL rfl
structure Pre (d : S.Desk) (who : Int) (c : S.Cmd) : Prop where
 d0 : S.checkDesk d = 0
 w0 : 0 <= who
 w1 : who < 3
 c0 : S.checkCmd c = 0
theorem desk_Do8 (zs : List S.Zone) (b : S.Book) (who z n p : Int) (dd : List Int) (h : Pre ⟨zs, b⟩ who ⟨8, z, n, p, dd⟩) : C Tryz.prog 122 [.agg (deskC false ⟨zs, b⟩), Int' who, .agg (cmdC false ⟨8, z, n, p, dd⟩)] (doR (if (S.register b who n).2 = 0 then ⟨zs, (S.register b who n).1⟩ else ⟨zs, b⟩, ⟨(S.register b who n).2, 0, []⟩, 0)) [] := by
 have h1 := hid (h.d0 ▸ desk_Check ⟨zs, b⟩);have h2 := hid (h.c0 ▸ cmd_Check ⟨8, z, n, p, dd⟩);have h3 := hid (desk_Copy ⟨zs, b⟩ (small_of h.d0).1);have c1 : decide (who < 0) = false := by have := h.w0; simp; omega
 have c2 : decide (3 <= who) = false := by have := h.w1; simp; omega
 have h4 := book_Register b who n;clear h;generalize S.register b who n = r at *;obtain ⟨b', e⟩ := r;simp only at h4;replace h4 := hid h4;by_cases he : e = 0
 ·subst he;refine CG [(18, [16006])] Tryz.func122 ?_;refine rC h1.out ?_;refine rD (aN c1 c2) h2.out ?_;refine rC h3.out ?_;refine rC h4.out ?_;refine rN ?_;exact ends_aai outL outL rfl
 ·refine CG [(18, [16006])] Tryz.func122 ?_;refine rC h1.out ?_;refine rD (aN c1 c2) h2.out ?_;refine rC h3.out ?_;refine rC h4.out ?_;refine rS he ?_;exact ends_aai outL outL rfl
theorem desk_Do9 (zs : List S.Zone) (b : S.Book) (who z n p : Int) (dd : List Int) (h : Pre ⟨zs, b⟩ who ⟨9, z, n, p, dd⟩) : C Tryz.prog 122 [.agg (deskC false ⟨zs, b⟩), Int' who, .agg (cmdC false ⟨9, z, n, p, dd⟩)] (doR (if (S.reserve b who n).2 = 0 then ⟨zs, (S.reserve b who n).1⟩ else ⟨zs, b⟩, ⟨(S.reserve b who n).2, 0, []⟩, 0)) [] := by
 have h1 := hid (h.d0 ▸ desk_Check ⟨zs, b⟩);have h2 := hid (h.c0 ▸ cmd_Check ⟨9, z, n, p, dd⟩);have h3 := hid (desk_Copy ⟨zs, b⟩ (small_of h.d0).1);have c1 : decide (who < 0) = false := by have := h.w0; simp; omega
 have c2 : decide (3 <= who) = false := by have := h.w1; simp; omega
 have h4 := book_Reserve b who n;clear h;generalize S.reserve b who n = r at *;obtain ⟨b', e⟩ := r;simp only at h4;replace h4 := hid h4;by_cases he : e = 0
 ·subst he;refine CG [(18, [16006])] Tryz.func122 ?_;refine rC h1.out ?_;refine rD (aN c1 c2) h2.out ?_;refine rC h3.out ?_;refine rC h4.out ?_;refine rN ?_;exact ends_aai outL outL rfl
 ·refine CG [(18, [16006])] Tryz.func122 ?_;refine rC h1.out ?_;refine rD (aN c1 c2) h2.out ?_;refine rC h3.out ?_;refine rC h4.out ?_;refine rS he ?_;exact ends_aai outL outL rfl
theorem desk_Do10 (zs : List S.Zone) (b : S.Book) (who z n p : Int) (dd : List Int) (h : Pre ⟨zs, b⟩ who ⟨10, z, n, p, dd⟩) : C Tryz.prog 122 [.agg (deskC false ⟨zs, b⟩), Int' who, .agg (cmdC false ⟨10, z, n, p, dd⟩)] (doR (if (S.release b who).2 = 0 then ⟨zs, (S.release b who).1⟩ else ⟨zs, b⟩, ⟨(S.release b who).2, 0, []⟩, 0)) [] := by
 have h1 := hid (h.d0 ▸ desk_Check ⟨zs, b⟩);have h2 := hid (h.c0 ▸ cmd_Check ⟨10, z, n, p, dd⟩);have h3 := hid (desk_Copy ⟨zs, b⟩ (small_of h.d0).1);have c1 : decide (who < 0) = false := by have := h.w0; simp; omega
 have c2 : decide (3 <= who) = false := by have := h.w1; simp; omega
 have h4 := book_Release b who;clear h;generalize S.release b who = r at *;obtain ⟨b', e⟩ := r;simp only at h4;replace h4 := hid h4;by_cases he : e = 0
 ·subst he;refine CG [(18, [16006])] Tryz.func122 ?_;refine rC h1.out ?_;refine rD (aN c1 c2) h2.out ?_;refine rC h3.out ?_;refine rC h4.out ?_;refine rN ?_;exact ends_aai outL outL rfl
 ·refine CG [(18, [16006])] Tryz.func122 ?_;refine rC h1.out ?_;refine rD (aN c1 c2) h2.out ?_;refine rC h3.out ?_;refine rC h4.out ?_;refine rS he ?_;exact ends_aai outL outL rfl
theorem desk_Do11 (zs : List S.Zone) (b : S.Book) (who z n p : Int) (dd : List Int) (h : Pre ⟨zs, b⟩ who ⟨11, z, n, p, dd⟩) : C Tryz.prog 122 [.agg (deskC false ⟨zs, b⟩), Int' who, .agg (cmdC false ⟨11, z, n, p, dd⟩)] (doR (if (S.preempt b who n).2 = 0 then ⟨zs, (S.preempt b who n).1⟩ else ⟨zs, b⟩, ⟨(S.preempt b who n).2, 0, []⟩, 0)) [] := by
 have h1 := hid (h.d0 ▸ desk_Check ⟨zs, b⟩);have h2 := hid (h.c0 ▸ cmd_Check ⟨11, z, n, p, dd⟩);have h3 := hid (desk_Copy ⟨zs, b⟩ (small_of h.d0).1);have c1 : decide (who < 0) = false := by have := h.w0; simp; omega
 have c2 : decide (3 <= who) = false := by have := h.w1; simp; omega
 have h4 := book_Preempt b who n;clear h;generalize S.preempt b who n = r at *;obtain ⟨b', e⟩ := r;simp only at h4;replace h4 := hid h4;by_cases he : e = 0
 ·subst he;refine CG [(18, [16006])] Tryz.func122 ?_;refine rC h1.out ?_;refine rD (aN c1 c2) h2.out ?_;refine rC h3.out ?_;refine rC h4.out ?_;refine rN ?_;exact ends_aai outL outL rfl
 ·refine CG [(18, [16006])] Tryz.func122 ?_;refine rC h1.out ?_;refine rD (aN c1 c2) h2.out ?_;refine rC h3.out ?_;refine rC h4.out ?_;refine rS he ?_;exact ends_aai outL outL rfl
theorem desk_Do12 (zs : List S.Zone) (b : S.Book) (who z n p : Int) (dd : List Int) (h : Pre ⟨zs, b⟩ who ⟨12, z, n, p, dd⟩) : C Tryz.prog 122 [.agg (deskC false ⟨zs, b⟩), Int' who, .agg (cmdC false ⟨12, z, n, p, dd⟩)] (doR (if (S.clear b who).2 = 0 then ⟨zs, (S.clear b who).1⟩ else ⟨zs, b⟩, ⟨(S.clear b who).2, 0, []⟩, 0)) [] := by
 have h1 := hid (h.d0 ▸ desk_Check ⟨zs, b⟩);have h2 := hid (h.c0 ▸ cmd_Check ⟨12, z, n, p, dd⟩);have h3 := hid (desk_Copy ⟨zs, b⟩ (small_of h.d0).1);have c1 : decide (who < 0) = false := by have := h.w0; simp; omega
 have c2 : decide (3 <= who) = false := by have := h.w1; simp; omega
 have h4 := book_Clear b who;clear h;generalize S.clear b who = r at *;obtain ⟨b', e⟩ := r;simp only at h4;replace h4 := hid h4;by_cases he : e = 0
 ·subst he;refine CG [(18, [16006])] Tryz.func122 ?_;refine rC h1.out ?_;refine rD (aN c1 c2) h2.out ?_;refine rC h3.out ?_;refine rC h4.out ?_;refine rN ?_;exact ends_aai outL outL rfl
 ·refine CG [(18, [16006])] Tryz.func122 ?_;refine rC h1.out ?_;refine rD (aN c1 c2) h2.out ?_;refine rC h3.out ?_;refine rC h4.out ?_;refine rS he ?_;exact ends_aai outL outL rfl
theorem desk_DoZ (zs : List S.Zone) (b : S.Book) (who k z n p : Int) (dd : List Int) (h : Pre ⟨zs, b⟩ who ⟨k, z, n, p, dd⟩) (hk : 1 <= k /\ k <= 6) (hz : 0 <= z) : C Tryz.prog 122 [.agg (deskC false ⟨zs, b⟩), Int' who, .agg (cmdC false ⟨k, z, n, p, dd⟩)]
  (doR (if S.might b who (!decide (k = 7)) = false then (⟨zs, b⟩, ⟨8, 0, []⟩, 0) else (if (S.deskZones zs ⟨k, z, n, p, dd⟩).2.e = 0 then ⟨(S.deskZones zs ⟨k, z, n, p, dd⟩).1, b⟩ else ⟨zs, b⟩, (S.deskZones zs ⟨k, z, n, p, dd⟩).2, 0))) [] := by
 have h1 := hid (h.d0 ▸ desk_Check ⟨zs, b⟩);have h2 := hid (h.c0 ▸ cmd_Check ⟨k, z, n, p, dd⟩);have h3 := hid (desk_Copy ⟨zs, b⟩ (small_of h.d0).1);have c1 : decide (who < 0) = false := by have := h.w0; simp; omega
 have c2 : decide (3 <= who) = false := by have := h.w1; simp; omega
 have k8 : decide (k = 8) = false := by simp; omega
 have k9 : decide (k = 9) = false := by simp; omega
 have k10 : decide (k = 10) = false := by simp; omega
 have k11 : decide (k = 11) = false := by simp; omega
 have k12 : decide (k = 12) = false := by simp; omega
 have h5 := hid (desk_zones zs ⟨k, z, n, p, dd⟩ hk hz)
 have h4 : C Tryz.prog 156 [Bk b, Int' who, Bool' (!decide (k = 7))] (.tup [Bool' (S.might b who (!decide (k = 7))), Int' 0]) [] := by
  have := book_May b who (!decide (k = 7));unfold S.may at this
  have hr : S.ready b who = 0 := by
   unfold S.ready;have q1 := (small_of h.d0).2.2;have q2 := h.w0;have q3 := h.w1;simp only at q1;rw [if_neg (by simp [q1]), if_neg (by omega)]
  rw [if_neg (by simp [hr])] at this;exact this
 replace h4 := hid h4;clear h hk hz;generalize S.might b who (!decide (k = 7)) = m at *;generalize S.deskZones zs ⟨k, z, n, p, dd⟩ = r at *;obtain ⟨zs', e, pos, dl⟩ := r;cases m
 ·refine CG [(18, [16006])] Tryz.func122 ?_;refine rC h1.out ?_;refine rD (aN c1 c2) h2.out ?_;refine rC h3.out ?_;refine rD (aN k8 (aN k9 (aN k10 (aN k11 k12)))) h4.out ?_;refine rN ?_;exact ends_aai outL outL rfl
 ·by_cases he : e = 0
  ·subst he;refine CG [(18, [16006])] Tryz.func122 ?_;refine rC h1.out ?_;refine rD (aN c1 c2) h2.out ?_;refine rC h3.out ?_;refine rD (aN k8 (aN k9 (aN k10 (aN k11 k12)))) h4.out ?_;refine rC h5.out ?_;refine rN ?_;exact ends_aai outL outL rfl
  ·refine CG [(18, [16006])] Tryz.func122 ?_;refine rC h1.out ?_;refine rD (aN c1 c2) h2.out ?_;refine rC h3.out ?_;refine rD (aN k8 (aN k9 (aN k10 (aN k11 k12)))) h4.out ?_;refine rC h5.out ?_;refine rS he ?_;exact ends_aai outL outL rfl
theorem desk_Do7 (zs : List S.Zone) (b : S.Book) (who z n p : Int) (dd : List Int) (h : Pre ⟨zs, b⟩ who ⟨7, z, n, p, dd⟩) (hz : 0 <= z) : C Tryz.prog 122 [.agg (deskC false ⟨zs, b⟩), Int' who, .agg (cmdC false ⟨7, z, n, p, dd⟩)]
  (doR (if S.might b who (!decide ((7 : Int) = 7)) = false then (⟨zs, b⟩, ⟨8, 0, []⟩, 0) else (if (S.deskZones zs ⟨7, z, n, p, dd⟩).2.e = 0 then ⟨(S.deskZones zs ⟨7, z, n, p, dd⟩).1, b⟩ else ⟨zs, b⟩, (S.deskZones zs ⟨7, z, n, p, dd⟩).2, 0))) [] := by
 have h1 := hid (h.d0 ▸ desk_Check ⟨zs, b⟩);have h2 := hid (h.c0 ▸ cmd_Check ⟨7, z, n, p, dd⟩);have h3 := hid (desk_Copy ⟨zs, b⟩ (small_of h.d0).1);have c1 : decide (who < 0) = false := by have := h.w0; simp; omega
 have c2 : decide (3 <= who) = false := by have := h.w1; simp; omega
 have h4 : C Tryz.prog 156 [Bk b, Int' who, Bool' false] (.tup [Bool' (S.might b who false), Int' 0]) [] := by
  have := book_May b who false;unfold S.may at this
  have hr : S.ready b who = 0 := by
   unfold S.ready;have q1 := (small_of h.d0).2.2;have q2 := h.w0;have q3 := h.w1;simp only at q1;rw [if_neg (by simp [q1]), if_neg (by omega)]
  rw [if_neg (by simp [hr])] at this;exact this
 replace h4 := hid h4;clear h;simp only [decide_true, Bool.not_true];generalize S.might b who false = m at *;obtain ⟨r, hr⟩ : ∃ r, S.deskZones zs ⟨7, z, n, p, dd⟩ = r := ⟨_, rfl⟩;rw [hr];unfold S.deskZones at hr;simp only at hr;rw [if_neg (by decide), if_neg (by decide), if_neg (by decide), if_neg (by decide), if_neg (by simp), if_neg (by decide)] at hr;obtain ⟨i, rfl⟩ : ∃ i : Nat, z = i := ⟨z.toNat, by omega⟩;clear hz;simp only [Int.toNat_natCast] at hr;cases m
 ·clear hr;refine CG [(18, [16006])] Tryz.func122 ?_;refine rC h1.out ?_;refine rD (aN c1 c2) h2.out ?_;refine rC h3.out ?_;refine rC h4.out ?_;refine rN ?_;exact ends_aai outL outL rfl
 by_cases hi : i < zs.length
 ·obtain ⟨y, hy⟩ : ∃ y, zs[i]? = some y := ⟨zs[i], by simp⟩;rw [getD_of hy, if_neg (by omega)] at hr;have h5 := zone_Read y p n;generalize S.readZone y p n = w at *;obtain ⟨dl, e⟩ := w;simp only at h5 hr;replace h5 := hid h5;subst hr;have hi' : decide (zs.length <= i) = false := by simp; omega
  by_cases he : e = 0
  ·subst he;refine CG [(18, [16006])] Tryz.func122 ?_;refine rC h1.out ?_;refine rD (aN c1 c2) h2.out ?_;refine rC h3.out ?_;refine rC h4.out ?_;refine rN ?_;refine CSI Tryz.func157 ?_;refine rD (aN hi' (aN hi hy)) h5.out ?_;refine rN ?_;exact ends_aai outL outL rfl
  ·refine CG [(18, [16006])] Tryz.func122 ?_;refine rC h1.out ?_;refine rD (aN c1 c2) h2.out ?_;refine rC h3.out ?_;refine rC h4.out ?_;refine rN ?_;refine CSI Tryz.func157 ?_;refine rD (aN hi' (aN hi hy)) h5.out ?_;refine rS he ?_;exact ends_aai outL outL rfl
 ·rw [if_pos (by omega)] at hr;subst hr;have hi' : decide (zs.length <= i) = true := by simp; omega
  refine CG [(18, [16006])] Tryz.func122 ?_;refine rC h1.out ?_;refine rD (aN c1 c2) h2.out ?_;refine rC h3.out ?_;refine rC h4.out ?_;refine rN ?_;refine CSI Tryz.func157 ?_;refine rS hi' ?_;exact ends_aai outL outL rfl
theorem cmd_facts {c : S.Cmd} (h : S.checkCmd c = 0) : 1 <= c.kind /\ c.kind <= 12 /\ 0 <= c.z /\ c.z <= 999 /\ 0 <= c.pos /\ c.pos <= 999 /\ 0 <= c.n /\ c.n <= 999 /\ c.d.length <= 8 /\ (∀ x, x ∈ c.d -> 0 <= x /\ x <= 999) /\ S.misused c = false := by
 unfold S.checkCmd at h;split at h
 ·cases h
 ·rename_i g1;split at h
  ·cases h
  ·rename_i g2;split at h
   ·cases h
   ·rename_i g3;split at h
    ·cases h
    ·rename_i g4;simp [S.bad] at g4;obtain ⟨a, b, c', d⟩ := g4;refine ⟨by omega, by omega, by omega, by omega, by omega, by omega, by omega, by omega, by omega, fun x hx => ?_, by simpa using g2⟩;have := d x hx;omega
theorem desk_Do (d : S.Desk) (who : Int) (c : S.Cmd) : C Tryz.prog 122 [.agg (deskC false d), Int' who, .agg (cmdC false c)] (doR (S.doDesk d who c)) [] := by
 unfold S.doDesk;by_cases h : S.checkDesk d = 0
 ·rw [if_neg (by simp [h])];by_cases hw : who < 0 \/ 3 <= who
  ·rw [if_pos hw];exact desk_Do_bad2 d who c h hw
  ·rw [if_neg hw];by_cases hc : S.checkCmd c = 0
   ·rw [if_neg (by simp [hc])];have pre : Pre d who c := ⟨h, by omega, by omega, hc⟩;obtain ⟨f1, f2, f3, -⟩ := cmd_facts hc;obtain ⟨zs, b⟩ := d;obtain ⟨k, z, n, p, dd⟩ := c;simp only at f1 f2 f3;unfold S.doneDesk S.onBook;simp only;by_cases hk : 8 <= k
    ·rw [if_pos hk];rcases (by omega : k = 8 \/ k = 9 \/ k = 10 \/ k = 11 \/ k = 12) with rfl | rfl | rfl | rfl | rfl
     ·simpa using desk_Do8 zs b who z n p dd pre
     ·simpa using desk_Do9 zs b who z n p dd pre
     ·simpa using desk_Do10 zs b who z n p dd pre
     ·simpa using desk_Do11 zs b who z n p dd pre
     ·simpa using desk_Do12 zs b who z n p dd pre
    ·rw [if_neg hk];have := if h7 : k = 7 then h7 ▸ desk_Do7 zs b who z n p dd (h7 ▸ pre) f3 else desk_DoZ zs b who k z n p dd pre ⟨f1, by omega⟩ f3
     by_cases hm : S.might b who (!decide (k = 7)) = false
     ·rw [if_pos hm] at this ⊢;exact this
     ·rw [if_neg hm] at this ⊢;exact this
   ·rw [if_pos hc];exact desk_Do_bad3 d who c h (by omega) hc
 ·rw [if_pos h];exact desk_Do_bad1 d who c h
theorem room_err (l : List S.Zone) (n : Nat) : (S.room l n).2 = 0 \/ (S.room l n).2 = 7 := by
 unfold S.room;simp only;repeat' split
 all_goals simp
theorem readyZ_err {l : List S.Zone} (h : S.checkZones l = 0) (k : Int) : S.readyZ l k = if k < 0 \/ 4 <= k then 5 else 0 := by
 unfold S.readyZ;rw [if_neg (by simp [h])]
theorem writeZone_err {z : S.Zone} (h : S.checkZone z = 0) (d : List Int) : (S.writeZone z d).2 = 0 \/ (S.writeZone z d).2 = 2 \/ (S.writeZone z d).2 = 3 \/ (S.writeZone z d).2 = 7 := by
 unfold S.writeZone;rw [if_neg (by simp [h])];repeat' split
 all_goals simp
theorem checkAnswer_e {e : Int} (h : 0 <= e /\ e <= 9) : S.checkAnswer ⟨e, 0, []⟩ = 0 := by
 unfold S.checkAnswer;rw [if_neg (by simp; omega), if_neg (by simp), if_neg (by simp), if_neg (by simp)]
theorem checkAnswer_at {p : Int} (h : 0 <= p /\ p < 8) : S.checkAnswer ⟨0, p, []⟩ = 0 := by
 unfold S.checkAnswer;rw [if_neg (by simp; omega), if_neg (by simp), if_neg (by simp), if_neg (by simp)]
theorem checkAnswer_d {d : List Int} (h : d.length <= 8) (hb : d.any S.bad = false) : S.checkAnswer ⟨0, 0, d⟩ = 0 := by
 unfold S.checkAnswer;rw [if_neg (by simp), if_neg (by simp; omega), if_neg (by simp [hb]), if_neg (by simp)]
theorem holdZ_err {zs : List S.Zone} (h : S.checkZones zs = 0) (k : Int) : 0 <= (S.holdZ zs k).2 /\ (S.holdZ zs k).2 <= 9 := by
 have h1 := readyZ_err h k;have h2 := room_err zs k.toNat;unfold S.holdZ;split
 ·simp only [h1]; split <;> omega
 ·split
  ·simp only; omega
  ·simp
theorem closeZ_err {zs : List S.Zone} (h : S.checkZones zs = 0) (k : Int) : 0 <= (S.closeZ zs k).2 /\ (S.closeZ zs k).2 <= 9 := by
 have h1 := readyZ_err h k;unfold S.closeZ;split
 ·simp only [h1]; split <;> omega
 ·split <;> simp
theorem finishZ_err {zs : List S.Zone} (h : S.checkZones zs = 0) (k : Int) : 0 <= (S.finishZ zs k).2 /\ (S.finishZ zs k).2 <= 9 := by
 have h1 := readyZ_err h k;unfold S.finishZ;split
 ·simp only [h1]; split <;> omega
 ·simp
theorem resetZ_err {zs : List S.Zone} (h : S.checkZones zs = 0) (k : Int) : 0 <= (S.resetZ zs k).2 /\ (S.resetZ zs k).2 <= 9 := by
 have h1 := readyZ_err h k;unfold S.resetZ;split
 ·simp only [h1]; split <;> omega
 ·simp
theorem zone_in {zs : List S.Zone} (h : S.checkZones zs = 0) {k : Int} (hk : 0 <= k /\ k < 4) : ∃ (n : Nat) (z : S.Zone), k = n /\ n < 4 /\ zs[n]? = some z /\ S.checkZone z = 0 := by
 have h1 := (checkZones_parts h).1;refine ⟨k.toNat, zs[k.toNat]'(by omega), by omega, by omega, by simp, (checkZones_parts h).2.1 _ (by simp)⟩
theorem writeZ_ans {zs : List S.Zone} (h : S.checkZones zs = 0) (k : Int) (d : List Int) : S.checkAnswer ⟨(S.writeZ zs k d).2.2, (S.writeZ zs k d).2.1, []⟩ = 0 := by
 have h1 := readyZ_err h k;by_cases hk : k < 0 \/ 4 <= k
 ·rw [if_pos hk] at h1;unfold S.writeZ;rw [if_pos (by rw [h1]; decide), h1];exact checkAnswer_e (e := 5) (by omega)
 rw [if_neg hk] at h1;obtain ⟨n, z, rfl, hn, hz, hzc⟩ := zone_in h (by omega : 0 <= k /\ k < 4);have h2 := writeZone_err hzc d;have h3 := room_err zs n;have h4 := fun g => (write_ok (z := z) (l := d) g)
 unfold S.writeZ;rw [if_neg (by omega)];simp only [Int.toNat_natCast, getD_of hz];split
 ·exact checkAnswer_e (by simp only; omega)
 ·rename_i g;split
  ·exact checkAnswer_e (by simp only; omega)
  ·obtain ⟨-, -, -, w4, w5, -⟩ := h4 (by simpa using g);exact checkAnswer_at (p := (z.d.length : Int)) (by omega)
theorem readZone_ok {z : S.Zone} (h : S.checkZone z = 0) (a n : Int) : S.checkAnswer ⟨(S.readZone z a n).2, 0, (S.readZone z a n).1⟩ = 0 := by
 have hl := checkZone_len h
 have hb : z.d.any S.bad = false := by
  unfold S.checkZone at h;split at h; · cases h
  split at h; · cases h
  split at h; · cases h
  rename_i g; simpa using g
 unfold S.readZone;rw [if_neg (by simp [h])];split
 ·exact checkAnswer_e (by omega)
 ·split
  ·exact checkAnswer_e (by omega)
  ·refine checkAnswer_d (by simp; omega) ?_;simp only [List.any_eq_false] at hb ⊢;exact fun x hx => hb x (List.mem_of_mem_drop (List.mem_of_mem_take hx))
structure Left (zs : List S.Zone) (c : S.Cmd) (m : List S.Zone) (a : S.Answer) : Prop where
 ok : S.checkZones m = 0
 read : c.kind = 7 -> m = zs
 zone : ∃ n : Nat, c.z = n /\ n < 4
 kept : ∀ (i : Nat) (x y : S.Zone), zs[i]? = some x -> m[i]? = some y -> ((i : Int) = c.z /\ c.kind = 4 -> y.d = []) /\ (¬ ((i : Int) = c.z /\ c.kind = 4) -> y.d.take x.d.length = x.d /\ x.d.length <= y.d.length)
 wrote : c.kind = 5 \/ c.kind = 6 -> ∃ (n : Nat) (x y : S.Zone), c.z = n /\ zs[n]? = some x /\ m[n]? = some y /\ y.d = x.d ++ c.d /\ a.pos = x.d.length /\ 1 <= c.d.length
theorem hold_zone {zs : List S.Zone} {k : Int} (h : (S.holdZ zs k).2 = 0) : S.readyZ zs k = 0 := by
 unfold S.holdZ at h;split at h
 ·rename_i g; exact absurd h g
 ·rename_i g; simpa using g
theorem close_zone {zs : List S.Zone} {k : Int} (h : (S.closeZ zs k).2 = 0) : S.readyZ zs k = 0 := by
 unfold S.closeZ at h;split at h
 ·rename_i g; exact absurd h g
 ·rename_i g; simpa using g
theorem finish_zone {zs : List S.Zone} {k : Int} (h : (S.finishZ zs k).2 = 0) : S.readyZ zs k = 0 := by
 unfold S.finishZ at h;split at h
 ·rename_i g; exact absurd h g
 ·rename_i g; simpa using g
theorem reset_zone {zs : List S.Zone} {k : Int} (h : (S.resetZ zs k).2 = 0) : S.readyZ zs k = 0 := by
 unfold S.resetZ at h;split at h
 ·rename_i g; exact absurd h g
 ·rename_i g; simpa using g
theorem write_zone {zs : List S.Zone} {k : Int} {d : List Int} (h : (S.writeZ zs k d).2.2 = 0) : S.readyZ zs k = 0 := by
 unfold S.writeZ at h;split at h
 ·rename_i g; exact absurd h g
 ·rename_i g; simpa using g
theorem left_of {zs m : List S.Zone} {c : S.Cmd} {a : S.Answer} {q : Int} {n : Nat} (hc : S.checkZones zs = 0) (hz : c.z = n) (hn : n < 4) (hq : q = 0 \/ q = 1 \/ q = 2 \/ q = 3 \/ q = 4)
  (hq3 : q = 3 ↔ c.kind = 4) (h7 : c.kind ≠ 7) {d : List Int} (hm : (S.moveZ q zs n d).1 = m) (h : (S.moveZ q zs n d).2 = 0)
  (hw : c.kind = 5 \/ c.kind = 6 -> ∃ (n : Nat) (x y : S.Zone), c.z = n /\ zs[n]? = some x /\ m[n]? = some y /\ y.d = x.d ++ c.d /\ a.pos = x.d.length /\ 1 <= c.d.length) : Left zs c m a := by
 obtain ⟨k1, k2, k3⟩ := move_kept hc hn hq h;rw [hm] at k1 k2 k3;refine ⟨k1, fun e => absurd e h7, ⟨n, hz, hn⟩, fun i x y hx hy => ?_, hw⟩;obtain ⟨p1, p2⟩ := k3 i x y hx hy;refine ⟨fun g => p1 ⟨by omega, hq3.2 g.2⟩, fun g => ?_⟩;obtain ⟨r1, r2, -⟩ := p2 fun g2 => g ⟨by omega, hq3.1 g2.2⟩
 exact ⟨r1, r2⟩
theorem write_left {zs : List S.Zone} {k z n p : Int} {d : List Int} (h : S.checkZones zs = 0) (hk : k = 5 \/ k = 6) (he : (S.writeZ zs z d).2.2 = 0) : Left zs ⟨k, z, n, p, d⟩ (S.writeZ zs z d).1 ⟨(S.writeZ zs z d).2.2, (S.writeZ zs z d).2.1, []⟩ := by
 have hr := write_zone he;obtain ⟨-, j, x, rfl, hj, hx⟩ := ready_parts hr;obtain ⟨k1, k2, k3, k4⟩ := writeZ_ok hx he;obtain ⟨w1, w2, w3, w4, w5, w6, w7⟩ := write_ok k2;refine left_of (q := 4) (n := j) (d := d) h rfl hj (by simp) (by simp only; omega) (by simp only; omega) rfl he fun _ => ?_
 refine ⟨j, x, (S.writeZone x d).1, rfl, hx, ?_, w3, ?_, w4⟩
 ·rw [k4];obtain ⟨g1, g2⟩ := room_get hx;exact get_set_self g1
 ·rw [k4]
theorem deskZones_ok {zs : List S.Zone} {c : S.Cmd} (h : S.checkZones zs = 0) (hc : S.checkCmd c = 0) (hk : c.kind <= 7) :
  S.checkAnswer (S.deskZones zs c).2 = 0 /\ ((S.deskZones zs c).2.e = 0 -> Left zs c (S.deskZones zs c).1 (S.deskZones zs c).2) := by
 obtain ⟨f1, f2, f3, -⟩ := cmd_facts hc;have hl := (checkZones_parts h).1;obtain ⟨k, z, n, p, d⟩ := c;simp only at f1 f2 f3 hk;rcases (by omega : k = 1 \/ k = 2 \/ k = 3 \/ k = 4 \/ k = 5 \/ k = 6 \/ k = 7) with rfl | rfl | rfl | rfl | rfl | rfl | rfl
 ·have e : S.deskZones zs ⟨1, z, n, p, d⟩ = ((S.holdZ zs z).1, ⟨(S.holdZ zs z).2, 0, []⟩) := by simp [S.deskZones]
  rw [e];refine ⟨checkAnswer_e (holdZ_err h z), fun he => ?_⟩;obtain ⟨-, j, x, rfl, hj, hx⟩ := ready_parts (hold_zone he);exact left_of (q := 0) (n := j) (d := d) h rfl hj (by simp) (by simp) (by simp) rfl he (by simp)
 ·have e : S.deskZones zs ⟨2, z, n, p, d⟩ = ((S.closeZ zs z).1, ⟨(S.closeZ zs z).2, 0, []⟩) := by simp [S.deskZones]
  rw [e];refine ⟨checkAnswer_e (closeZ_err h z), fun he => ?_⟩;obtain ⟨-, j, x, rfl, hj, hx⟩ := ready_parts (close_zone he);exact left_of (q := 1) (n := j) (d := d) h rfl hj (by simp) (by simp) (by simp) rfl he (by simp)
 ·have e : S.deskZones zs ⟨3, z, n, p, d⟩ = ((S.finishZ zs z).1, ⟨(S.finishZ zs z).2, 0, []⟩) := by simp [S.deskZones]
  rw [e];refine ⟨checkAnswer_e (finishZ_err h z), fun he => ?_⟩;obtain ⟨-, j, x, rfl, hj, hx⟩ := ready_parts (finish_zone he);exact left_of (q := 2) (n := j) (d := d) h rfl hj (by simp) (by simp) (by simp) rfl he (by simp)
 ·have e : S.deskZones zs ⟨4, z, n, p, d⟩ = ((S.resetZ zs z).1, ⟨(S.resetZ zs z).2, 0, []⟩) := by simp [S.deskZones]
  rw [e];refine ⟨checkAnswer_e (resetZ_err h z), fun he => ?_⟩;obtain ⟨-, j, x, rfl, hj, hx⟩ := ready_parts (reset_zone he);exact left_of (q := 3) (n := j) (d := d) h rfl hj (by simp) (by simp) (by simp) rfl he (by simp)
 ·have e : S.deskZones zs ⟨5, z, n, p, d⟩ = ((S.writeZ zs z d).1, ⟨(S.writeZ zs z d).2.2, (S.writeZ zs z d).2.1, []⟩) := by simp [S.deskZones]
  rw [e];exact ⟨writeZ_ans h z d, fun he => write_left h (.inl rfl) he⟩
 ·by_cases g : z < zs.length /\ p ≠ (zs.getD z.toNat S.Zone.zero).d.length
  ·have e : S.deskZones zs ⟨6, z, n, p, d⟩ = ([], ⟨6, 0, []⟩) := by
    unfold S.deskZones;rw [if_neg (by simp), if_neg (by simp), if_neg (by simp), if_neg (by simp), if_pos ⟨rfl, g⟩]
   rw [e];exact ⟨checkAnswer_e (by omega), fun he => by cases he⟩
  ·have e : S.deskZones zs ⟨6, z, n, p, d⟩ = ((S.writeZ zs z d).1, ⟨(S.writeZ zs z d).2.2, (S.writeZ zs z d).2.1, []⟩) := by
    unfold S.deskZones;rw [if_neg (by simp), if_neg (by simp), if_neg (by simp), if_neg (by simp), if_neg (fun q => g q.2), if_pos (by simp)]
   rw [e];exact ⟨writeZ_ans h z d, fun he => write_left h (.inr rfl) he⟩
 ·by_cases g : (zs.length : Int) <= z
  ·have e : S.deskZones zs ⟨7, z, n, p, d⟩ = ([], ⟨5, 0, []⟩) := by
    unfold S.deskZones;rw [if_neg (by simp), if_neg (by simp), if_neg (by simp), if_neg (by simp), if_neg (by simp), if_neg (by simp), if_pos g]
   rw [e];exact ⟨checkAnswer_e (by omega), fun he => by cases he⟩
  ·have e : S.deskZones zs ⟨7, z, n, p, d⟩ = (zs, ⟨(S.readZone (zs.getD z.toNat S.Zone.zero) p n).2, 0, (S.readZone (zs.getD z.toNat S.Zone.zero) p n).1⟩) := by
    unfold S.deskZones;rw [if_neg (by simp), if_neg (by simp), if_neg (by simp), if_neg (by simp), if_neg (by simp), if_neg (by simp), if_neg g]
   rw [e];obtain ⟨j, x, rfl, hj, hx, hxc⟩ := zone_in h (k := z) (by omega);refine ⟨?_, fun he => ⟨h, fun _ => rfl, ⟨j, rfl, hj⟩, fun i x y hx hy => ?_, by simp⟩⟩
   ·simp only [Int.toNat_natCast, getD_of hx];exact readZone_ok hxc _ _
   ·simp only at hy;rw [hx] at hy;cases hy;simp
theorem onBook_move {b : S.Book} {k who n : Int} (hk : 8 <= k /\ k <= 12) : S.onBook b k who n = S.move (k - 8) b who n := by
 rcases (by omega : k = 8 \/ k = 9 \/ k = 10 \/ k = 11 \/ k = 12) with rfl | rfl | rfl | rfl | rfl <;> simp [S.onBook, S.move]
theorem ready_who {b : S.Book} (h : S.checkBook b = 0) {who : Int} (hw : 0 <= who /\ who < 3) : S.ready b who = 0 := by
 unfold S.ready;rw [if_neg (by simp [h]), if_neg (by omega)]
theorem onBook_err {b : S.Book} (h : S.checkBook b = 0) {k who n : Int} (hw : 0 <= who /\ who < 3) : 0 <= (S.onBook b k who n).2 /\ (S.onBook b k who n).2 <= 9 := by
 have hr := ready_who h hw;unfold S.onBook S.register S.reserve S.release S.preempt S.clear;simp only [hr, ne_eq, not_true_eq_false, if_false];repeat' split
 all_goals simp
structure Did (d : S.Desk) (who : Int) (c : S.Cmd) (m : S.Desk) (a : S.Answer) : Prop where
 ok : S.checkDesk m = 0
 ans : S.checkAnswer a = 0
 same : a.e ≠ 0 -> m = d
 might : S.might d.b who true = false -> m.zs = d.zs
 book : c.kind <= 7 -> m.b = d.b
 left : a.e = 0 -> c.kind <= 7 -> Left d.zs c m.zs a
 zones : 8 <= c.kind -> m.zs = d.zs /\ a.pos = 0 /\ a.d = []
theorem checkDesk_of {zs : List S.Zone} {b : S.Book} (h1 : S.checkZones zs = 0) (h2 : S.checkBook b = 0) : S.checkDesk ⟨zs, b⟩ = 0 := by
 unfold S.checkDesk;rw [if_neg (by simp [h1])];exact h2
theorem done_did {d : S.Desk} {who : Int} {c : S.Cmd} (h : Pre d who c) : Did d who c (S.doneDesk d who c).1 (S.doneDesk d who c).2 := by
 obtain ⟨sm, hz, hb⟩ := small_of h.d0;obtain ⟨f1, f2, f3, -⟩ := cmd_facts h.c0;have h0 := h.d0;have hw : 0 <= who /\ who < 3 := ⟨h.w0, h.w1⟩;obtain ⟨zs, b⟩ := d;simp only at hz hb;unfold S.doneDesk;by_cases hk : 8 <= c.kind
 ·simp only [if_pos hk];have e1 := onBook_err hb (k := c.kind) (n := c.n) hw;have e2 := onBook_move (b := b) (who := who) (n := c.n) ⟨hk, f2⟩;have e3 := fun g => (move_good hb (w := who) (by omega) (n := c.n) (q := c.kind - 8) g).1
  rw [<- e2] at e3;generalize S.onBook b c.kind who c.n = r at *;obtain ⟨b', e⟩ := r;simp only at e1 e3 ⊢;refine ⟨?_, checkAnswer_e e1, fun g => ?_, fun _ => ?_, fun g => by omega, fun _ g => by omega, fun _ => ⟨?_, rfl, rfl⟩⟩
  ·split
   ·rename_i g; exact checkDesk_of hz (e3 g)
   ·exact h0
  ·rw [if_neg g]
  ·split <;> rfl
  ·split <;> rfl
 ·simp only [if_neg hk];by_cases hm : S.might b who (!decide (c.kind = 7)) = false
  ·simp only [if_pos hm];exact ⟨h0, checkAnswer_e (by omega), fun _ => rfl, fun _ => rfl, fun _ => rfl, fun g => by simp at g, fun g => by omega⟩
  ·simp only [if_neg hm];obtain ⟨a1, a2⟩ := deskZones_ok hz h.c0 (by omega);generalize S.deskZones zs c = r at *;obtain ⟨m, a⟩ := r;simp only at a1 a2 ⊢;refine ⟨?_, a1, fun g => by rw [if_neg g], fun hm2 => ?_, fun _ => by split <;> rfl, fun g g2 => by rw [if_pos g]; exact a2 g, fun g => by omega⟩
   ·split
    ·rename_i g; exact checkDesk_of (a2 g).ok hb
    ·exact h0
   ·split
    ·rename_i g;by_cases h7 : c.kind = 7
     ·exact (a2 g).read h7
     ·simp [h7, hm2] at hm
    ·rfl
theorem do_of {d : S.Desk} {who : Int} {c : S.Cmd} (h : Pre d who c) : S.doDesk d who c = ((S.doneDesk d who c).1, (S.doneDesk d who c).2, 0) := by
 have q1 := h.d0;have q2 := h.w0;have q3 := h.w1;have q4 := h.c0;unfold S.doDesk;rw [if_neg (by simp [q1]), if_neg (by omega), if_neg (by simp [q4])]
abbrev putC (n : Int) : S.Cmd := ⟨5, 1, 0, 0, [n]⟩
theorem law_puts (n : Int) : C Tryz.prog 38 [Int' n] (.agg (cmdC true (putC n))) [] := by
 refine CI Tryz.func38 ?_;refine rN ?_;exact ⟨⟨_, rfl, Sub.refl _⟩, rfl⟩
theorem ask_eq {h : S.Hand} {c : S.Cmd} {r : S.Hand × Int} (e : S.ask h c = r) : C Tryz.prog 80 [.agg (handC false h), .agg (cmdC false c)] (.tup [.agg (handC true r.1), Int' r.2]) [] := e ▸ hand_Ask h c
theorem hear_eq {h : S.Hand} {q : Int} {a : S.Answer} {r : S.Hand × Int} (e : S.hear h q a = r) : C Tryz.prog 114 [.agg (handC false h), Int' q, .agg (ansC false a)] (.tup [.agg (handC true r.1), Int' r.2]) [] := e ▸ hand_Hear h q a
theorem hear_ok {h : S.Hand} {q : Int} {a : S.Answer} (e : (S.hear h q a).2 = 0) : S.checkHand h = 0 /\ S.checkAnswer a = 0 /\ S.hear h q a = if h.waits = true /\ q = h.seq then (⟨h.seq, false, S.Cmd.zero, h.got ++ [a]⟩, 0) else (h, 0) := by
 unfold S.hear at e ⊢;by_cases h1 : S.checkHand h = 0
 ·by_cases h2 : S.checkAnswer a = 0
  ·simp [h1, h2]
  ·rw [if_neg (by simp [h1]), if_pos h2] at e; exact absurd e h2
 ·rw [if_pos h1] at e; exact absurd e h1
theorem do_eq {d : S.Desk} {who : Int} {c : S.Cmd} {r : S.Desk × S.Answer × Int} (e : S.doDesk d who c = r) : C Tryz.prog 122 [.agg (deskC false d), Int' who, .agg (cmdC false c)] (doR r) [] := e ▸ desk_Do d who c
end Go.Proofs.YtadmfokicjjglaaGreatDoor.E
