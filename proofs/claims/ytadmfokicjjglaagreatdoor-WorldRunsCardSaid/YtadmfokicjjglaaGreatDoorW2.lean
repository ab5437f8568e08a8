/- W2: Wd: a world that is right stays right, whatever happens: plain law. We: plain laws of worlds: in parts, standing, twice. Wf: worlds that are played: what was done, and told; plain laws StoryGrows, StoryKeys. Wg: StoryOnce, plain: commands of a hand are done in order, each once; what it got is what it was told. Wh: StoryStands, plain: what was written stands where it was told, till its zone is reset. Wi: StoryCalm, plain: a world that boots, whose mail is lost, in which each asks again. -/
import Derived.Test.YtadmfokicjjglaaGreatDoorK1
import Derived.Test.YtadmfokicjjglaaGreatDoorD4
import Derived.Test.YtadmfokicjjglaaGreatDoorSq
namespace Go.Proofs.YtadmfokicjjglaaGreatDoor.E
open Go.RowKit Go.Proofs
set_option linter.unusedVariables false
set_option linter.unusedSimpArgs false
structure OkW (w : S.World) (l : List S.Rec) : Prop where
 hand3 : w.hand.length = 3
 mail30 : w.mail.length <= 30
 mails : ∀ m, m ∈ w.mail -> S.checkMail m = 0
 safe : w.d.safe = S.textOf l
 recs : ∀ r, r ∈ l -> S.checkRec r = 0
 l80 : l.length <= 80
 room : w.d.wait.length + w.d.safe.length <= 60000
 up : w.up = true -> w.d.wait = [] /\ S.replay l = (w.h, 0)
 down : w.up = false -> w.h = S.Hall.new
 hands : ∀ x, x ∈ w.hand -> S.checkHand x = 0
theorem okW_disk {w : S.World} {l : List S.Rec} (h : OkW w l) : S.checkDisk w.d = 0 := by
 have e : w.d = ⟨S.textOf l, w.d.wait⟩ := by rw [<- h.safe]
 have := h.room;unfold S.checkDisk;rw [if_neg (by omega), h.safe, S.lines_whole h.recs (by have := h.l80; omega)]
theorem okW_up {w : S.World} {l : List S.Rec} (h : OkW w l) (hu : w.up = true) : w.d = ⟨S.textOf l, []⟩ /\ S.recoverDisk w.d = (⟨S.textOf l, []⟩, l, 0) := by
 have e : w.d = ⟨S.textOf l, []⟩ := by rw [<- h.safe, <- (h.up hu).1]
 exact ⟨e, by rw [e]; exact S.recover_text h.recs h.l80⟩
theorem okW_check {w : S.World} {l : List S.Rec} (h : OkW w l) : S.checkWorld w = 0 := by
 have hd := okW_disk h;have hr : (S.recoverDisk w.d).2.2 = 0 := by unfold S.recoverDisk; rw [if_neg (by simp [hd])]
 have hm : S.firstBad S.checkMail w.mail = 0 := firstBad_none fun j x _ hx => h.mails x (List.mem_of_getElem? hx)
 have hh : S.firstBad S.checkHand w.hand = 0 := firstBad_none fun j x _ hx => h.hands x (List.mem_of_getElem? hx)
 have hrep : S.replay (S.heard w) = (w.h, 0) := by
  unfold S.heard;cases hu : w.up with
  | true => rw [if_pos rfl, (okW_up h hu).2]; exact (h.up hu).2
  | false => rw [if_neg (by simp), h.down hu]; rfl
 unfold S.checkWorld
 rw [if_neg (by simp [h.hand3]), if_neg (by have := h.mail30; omega), if_neg (by simp [hm]), if_neg (by simp [hr]), if_neg (fun g => by
  have := (h.up g.1).1;rw [this] at g
  simp at g), hrep, if_neg (by simp), if_neg (by simp)]
 exact hh
theorem check_okW {w : S.World} (h : S.checkWorld w = 0) : ∃ l, OkW w l := by
 unfold S.checkWorld at h;split at h
 ·cases h
 rename_i h1;split at h
 ·cases h
 rename_i h2;split at h
 ·rename_i g; exact absurd h g
 rename_i h3;split at h
 ·rename_i g; exact absurd h g
 rename_i h4;split at h
 ·cases h
 rename_i h5;split at h
 ·rename_i g; exact absurd h g
 rename_i h6;split at h
 ·cases h
 rename_i h7
 have hd : S.checkDisk w.d = 0 := by
  have h4' : (S.recoverDisk w.d).2.2 = 0 := Decidable.not_not.1 h4;unfold S.recoverDisk at h4';by_cases g : S.checkDisk w.d = 0
  ·exact g
  ·rw [if_pos g] at h4'; exact h4'
 obtain ⟨l, q1, q2, q3, q4⟩ := S.disk_right hd
 have hroom : w.d.wait.length + w.d.safe.length <= 60000 := by
  unfold S.checkDisk at hd;by_cases g : 60000 < w.d.safe.length \/ 60000 < w.d.wait.length + w.d.safe.length
  ·rw [if_pos g] at hd; cases hd
  ·omega
 have hup : w.up = true -> w.d.wait = [] := fun hu => by
  refine List.eq_nil_of_length_eq_zero ?_;by_cases g : 0 < w.d.wait.length
  ·exact absurd ⟨hu, g⟩ h5
  ·omega
 refine ⟨l, by omega, by omega, fun m hm => firstBad_zero (Decidable.not_not.1 h3) m hm, q1, q2, q3, hroom, fun hu => ⟨hup hu, ?_⟩, fun hu => ?_, fun x hx => firstBad_zero h x hx⟩
 ·have e : w.d = ⟨S.textOf l, []⟩ := by rw [<- q1, <- hup hu]
  have hh : S.heard w = l := by
   unfold S.heard;rw [if_pos hu, e, S.recover_text q2 q3]
  rw [hh] at h6 h7;exact Prod.ext (Decidable.not_not.1 h7) (Decidable.not_not.1 h6)
 ·have hh : S.heard w = [] := by unfold S.heard; rw [if_neg (by simp [hu])]
  rw [hh] at h7;exact (Decidable.not_not.1 h7).symm
theorem replayFrom_snoc : ∀ {l : List S.Rec} {h w : S.Hall} {r : S.Rec}, S.replayFrom h l = (w, 0) -> S.replayFrom h (l ++ [r]) = if (S.nextHall w r).2.2 ≠ 0 then (S.Hall.zero, (S.nextHall w r).2.2) else ((S.nextHall w r).1, 0)
 | [], h, w, r, e => by
  simp only [S.replayFrom, Prod.mk.injEq, and_true] at e;subst e;rfl
 | x :: l, h, w, r, e => by
  rw [S.replayFrom] at e;rw [List.cons_append, S.replayFrom];by_cases g : (S.nextHall h x).2.2 ≠ 0
  ·rw [if_pos g] at e; simp only [Prod.mk.injEq] at e; exact absurd e.2 g
  ·rw [if_neg g] at e ⊢;exact replayFrom_snoc e
theorem okW_post {w : S.World} {l : List S.Rec} {m : S.Mail} (h : OkW w l) (hm : S.checkMail m = 0) : OkW (S.post w m) l := by
 unfold S.post;split
 ·rename_i g;have h1 : (w.mail ++ [m]).length <= 30 := by simp; omega
  have h2 : ∀ x, x ∈ w.mail ++ [m] -> S.checkMail x = 0 := fun x hx => (List.mem_append.1 hx).elim (h.mails x) (by simp; rintro rfl; exact hm)
  exact ⟨h.hand3, h1, h2, h.safe, h.recs, h.l80, h.room, h.up, h.down, h.hands⟩
 ·exact h
theorem checkHand_of {h : S.Hand} (h1 : 0 <= h.seq /\ h.seq <= 40) (h2 : ∀ a, a ∈ h.got -> S.checkAnswer a = 0) (h3 : (h.got.length : Int) + (if h.waits = true then 1 else 0) = h.seq) (h4 : h.waits = false -> h.c = S.Cmd.zero) (h5 : h.waits = true -> S.checkCmd h.c = 0) : S.checkHand h = 0 := by
 have g : S.firstBad S.checkAnswer h.got = 0 := firstBad_none fun j x _ hx => h2 x (List.mem_of_getElem? hx)
 unfold S.checkHand;rw [if_neg (by omega), if_neg (by simp [g]), if_neg (fun q => q.elim (fun q => q h3) (fun q => q.2 (h4 q.1)))];cases hw : h.waits with
 | true => rw [if_pos rfl]; exact h5 hw
 | false => rfl
theorem ask_ok {h : S.Hand} {c : S.Cmd} (e : (S.ask h c).2 = 0) : S.ask h c = (⟨h.seq + 1, true, c, h.got⟩, 0) /\ S.checkHand h = 0 /\ S.checkCmd c = 0 /\ h.waits = false /\ S.checkHand (S.ask h c).1 = 0 := by
 unfold S.ask at e ⊢;by_cases h1 : S.checkHand h = 0
 rotate_left
 ·rw [if_pos h1] at e; exact absurd e h1
 rw [if_neg (by simp [h1])] at e ⊢;by_cases h2 : S.checkCmd c = 0
 rotate_left
 ·rw [if_pos h2] at e; exact absurd e h2
 rw [if_neg (by simp [h2])] at e ⊢;cases hw : h.waits with
 | true => rw [hw, if_pos rfl] at e; cases e
 | false =>
  rw [hw, if_neg (by simp)] at e;rw [if_neg (by simp)];by_cases h3 : h.seq = 40
  ·rw [if_pos h3] at e; cases e
  ·rw [if_neg h3];obtain ⟨q1, q2, q3, q4, q5⟩ := checkHand_parts h1;rw [hw] at q3;refine ⟨rfl, h1, h2, rfl, checkHand_of ⟨by simp only; omega, by simp only; omega⟩ q2 (by simp only [if_true] at q3 ⊢; simp at q3; omega) (fun q => by cases q) (fun _ => h2)⟩
theorem hear_right {h : S.Hand} {q : Int} {a : S.Answer} (e : (S.hear h q a).2 = 0) : S.checkHand (S.hear h q a).1 = 0 := by
 obtain ⟨h1, h2, h3⟩ := hear_ok e;rw [h3];by_cases g : h.waits = true /\ q = h.seq
 ·rw [if_pos g];obtain ⟨q1, q2, q3, q4, q5⟩ := checkHand_parts h1;rw [if_pos g.1] at q3;refine checkHand_of q1 (fun x hx => (List.mem_append.1 hx).elim (q2 x) (by simp; rintro rfl; exact h2)) (by simp; omega) (fun _ => rfl) (fun q => by cases q)
 ·rw [if_neg g]; exact h1
theorem lines_full : ∀ {l : List S.Rec} (r : S.Rec) (m : Int), (∀ x, x ∈ l -> S.checkRec x = 0) -> S.checkRec r = 0 -> (l.length : Int) = m -> (S.lines (S.textOf (l ++ [r])) m).2.2 = 2
 | [], r, m, _, hr, hm => by
  have e : S.textOf ([] ++ [r]) = S.recText r ++ 10 :: [] := by simp [S.textOf]
  simp at hm;rw [e, S.lines_some m (S.cut1_app _ (S.recText_no_line hr)), S.parse_rec hr, if_neg (by simp), if_pos hm.symm]
 | x :: l, r, m, h, hr, hm => by
  have e : S.textOf (x :: l ++ [r]) = S.recText x ++ 10 :: S.textOf (l ++ [r]) := by simp [S.textOf]
  simp only [List.length_cons] at hm;rw [e, S.lines_some m (S.cut1_app _ (S.recText_no_line (h x (by simp)))), S.parse_rec (h x (by simp)), if_neg (by simp), if_neg (by omega)];exact lines_full r (m - 1) (fun y hy => h y (by simp [hy])) hr (by omega)
theorem okW_asked {w : S.World} {l : List S.Rec} {m : S.Mail} (h : OkW w l) (hu : w.up = true) : ∃ l', OkW (S.asked w m) l' /\ (l' = l \/ l' = l ++ [⟨m.who, m.seq, m.c⟩]) := by
 unfold S.asked;obtain ⟨r, hr⟩ : ∃ r : S.Rec, (⟨m.who, m.seq, m.c⟩ : S.Rec) = r := ⟨_, rfl⟩;rw [hr];by_cases e : (S.nextHall w.h r).2.2 = 0
 rotate_left
 ·rw [if_pos e]; exact ⟨l, h, .inl rfl⟩
 rw [if_neg (by simp [e])];have hrec := S.nextHall_rec e;obtain ⟨n1, n2⟩ := next_of e;obtain ⟨p1, p2, p3, p4, p5⟩ := checkRec_parts hrec
 have hm : S.checkMail ⟨true, m.who, m.seq, S.Cmd.zero, (S.nextHall w.h r).2.1⟩ = 0 := by
  subst hr;unfold S.checkMail;simp only at p1 p2 p3 p4;rw [if_neg (by simp only; omega), if_pos rfl, if_neg (by simp)];exact n2.ans
 split;rotate_left
 ·exact ⟨l, okW_post h hm, .inl rfl⟩
 obtain ⟨d1, d2⟩ := okW_up h hu;rw [d1];have hput := S.put_text (w := []) h.recs h.l80 (by simp) hrec;have e1 : ([] : List UInt8) ++ S.recText r ++ [10] = S.textOf [r] := by simp [S.textOf]
 rw [e1] at hput;rw [hput, if_neg (by simp)];simp only;by_cases hl : l.length < 80
 rotate_left
 ·have : (S.syncDisk ⟨S.textOf l, S.textOf [r]⟩).2 ≠ 0 := by
   have hc := S.check_text (l := l) (w := S.textOf [r]) h.recs h.l80 (by have := S.textOf_len (l := [r]) (by simpa using hrec); simp at this; omega);have hlen := S.textOf_len (l := l ++ [r]) (fun x hx => (List.mem_append.1 hx).elim (h.recs x) (by simp; rintro rfl; exact hrec));have h80 := h.l80;have hf := lines_full (l := l) r 80 h.recs hrec (by omega)
   have hc2 : S.checkDisk ⟨S.textOf (l ++ [r]), []⟩ = 2 := by
    unfold S.checkDisk;rw [if_neg (by simp only [List.length_nil]; simp at hlen; omega)];exact hf
   unfold S.syncDisk;simp only [<- S.textOf_app];rw [if_neg (by simp [hc]), hc2, if_pos (by decide)];simp
  rw [if_pos this];exact ⟨l, h, .inl rfl⟩
 have hs := (S.step_text h.recs hrec hl).2;rw [hs, if_neg (by simp)];have hrs : ∀ x, x ∈ l ++ [r] -> S.checkRec x = 0 := fun x hx => (List.mem_append.1 hx).elim (h.recs x) (by simp; rintro rfl; exact hrec)
 refine ⟨l ++ [r], okW_post ⟨h.hand3, h.mail30, h.mails, rfl, hrs, by simp; omega, ?_, fun _ => ⟨rfl, ?_⟩, fun g => ?_, h.hands⟩ hm, .inr rfl⟩
 ·have := S.textOf_len hrs;simp only [List.length_nil] at this ⊢;simp at this;omega
 ·have hf := (S.replay_ok (h.up hu).2).2;unfold S.replay;rw [if_neg (by simp; omega), replayFrom_snoc hf, if_neg (by simp [e])]
 ·simp only [hu] at g; cases g
theorem okW_gone {w : S.World} {l : List S.Rec} (h : OkW w l) (n : Nat) : OkW { w with mail := w.mail.eraseIdx n } l :=
 ⟨h.hand3, by have := h.mail30; have := List.length_eraseIdx_le w.mail n; simp only; omega, fun m hm => h.mails m (List.mem_of_mem_eraseIdx hm), h.safe, h.recs, h.l80, h.room, h.up, h.down, h.hands⟩
theorem okW_hand {w : S.World} {l : List S.Rec} (h : OkW w l) (n : Nat) {x : S.Hand} (hx : S.checkHand x = 0) : OkW { w with hand := w.hand.set n x } l :=
 ⟨by simp only [List.length_set]; exact h.hand3, h.mail30, h.mails, h.safe, h.recs, h.l80, h.room, h.up, h.down, fun y hy => by
  rcases List.mem_or_eq_of_mem_set hy with g | g
  ·exact h.hands y g
  ·subst g; exact hx⟩
theorem hand_at {w : S.World} {l : List S.Rec} (h : OkW w l) {k : Int} (h0 : 0 <= k) (h1 : k < 3) : ∃ x, w.hand[k.toNat]? = some x /\ w.hand.getD k.toNat S.Hand.zero = x /\ S.checkHand x = 0 := by
 have hl : k.toNat < w.hand.length := by rw [h.hand3]; omega
 refine ⟨w.hand[k.toNat], by simp [hl], getD_of (by simp [hl]), h.hands _ (List.getElem_mem hl)⟩
theorem okW_hear {w v : S.World} {l : List S.Rec} {x : S.Hap} (h : OkW w l) (e : S.hearMail w x = (v, 0)) : ∃ l', OkW v l' /\ (l' = l \/ ∃ r, l' = l ++ [r]) := by
 unfold S.hearMail at e;split at e
 ·cases e
 rename_i hn;simp only at e;obtain ⟨m, hm⟩ : ∃ m, w.mail.getD x.n.toNat default = m := ⟨_, rfl⟩
 have hv : ∀ u : S.World, u = (if x.kind ≠ 4 then { w with mail := w.mail.eraseIdx x.n.toNat } else w) -> OkW u l /\ u.hand = w.hand /\ u.up = w.up := fun u hu => by
  subst hu;split
  ·exact ⟨okW_gone h _, rfl, rfl⟩
  ·exact ⟨h, rfl, rfl⟩
 obtain ⟨u, hu⟩ : ∃ u : S.World, (if x.kind ≠ 4 then { w with mail := w.mail.eraseIdx x.n.toNat } else w) = u := ⟨_, rfl⟩;obtain ⟨h1, h2, h3⟩ := hv u hu.symm;rw [hu, hm] at e;split at e
 ·cases e; exact ⟨l, h1, .inl rfl⟩
 ·split at e
  ·split at e
   ·rename_i g; simp only [Prod.mk.injEq] at e; exact absurd e.2 g
   ·rename_i g;simp only [Prod.mk.injEq, and_true] at e;subst e;exact ⟨l, okW_hand h1 _ (hear_right (Decidable.not_not.1 g)), .inl rfl⟩
  ·split at e
   ·cases e
   ·rename_i g;simp only [Prod.mk.injEq, and_true] at e;subst e;obtain ⟨l', q1, q2⟩ := okW_asked (m := m) h1 (by simpa using g);exact ⟨l', q1, q2.elim .inl fun q => .inr ⟨_, q⟩⟩
theorem recover_parts {d : S.Disk} {l : List S.Rec} (hs : d.safe = S.textOf l) (hr : ∀ r, r ∈ l -> S.checkRec r = 0) (h80 : l.length <= 80) (hroom : d.wait.length + d.safe.length <= 60000) :
  ∃ l2 : List S.Rec, S.recoverDisk d = (⟨S.textOf (l ++ l2), []⟩, l ++ l2, 0) /\ (∀ r, r ∈ l ++ l2 -> S.checkRec r = 0) /\ (l ++ l2).length <= 80 := by
 have hd : S.checkDisk d = 0 := by
  unfold S.checkDisk;rw [if_neg (by omega), hs, S.lines_whole hr (by omega)]
 obtain ⟨q1, q2, q3⟩ := S.linesF_part d.wait.length d.wait (80 - (l.length : Int)) (Nat.le_refl _);have hroom2 := S.lines_room d.wait (m := 80 - (l.length : Int)) (by omega)
 have hk : S.kept d = S.lines d.wait (80 - (l.length : Int)) := by
  unfold S.kept;rw [hs, S.lines_whole hr (by omega)]
 refine ⟨(S.kept d).1, ?_, fun r hx => (List.mem_append.1 hx).elim (hr r) (by rw [hk]; exact q3 r), by rw [hk]; simp; omega⟩;unfold S.recoverDisk;rw [if_neg (by simp [hd])];have e1 : (S.lines d.safe 80).1 = l := by rw [hs, S.lines_whole hr (by omega)]
 rw [e1, S.textOf_app, <- hs, hk];have : d.wait.take (d.wait.length - (S.lines d.wait (80 - (l.length : Int))).2.1) = S.textOf (S.lines d.wait (80 - (l.length : Int))).1 := q1;rw [this]
theorem okW_power {w v : S.World} {l : List S.Rec} {x : S.Hap} (h : OkW w l) (e : S.power w x = (v, 0)) : ∃ l2, OkW v (l ++ l2) := by
 unfold S.power at e;split at e
 ·cases e
 split at e
 ·cases e;exact ⟨[], by rw [List.append_nil]; exact ⟨h.hand3, h.mail30, h.mails, h.safe, h.recs, h.l80, h.room, (fun g => by cases g), fun _ => rfl, h.hands⟩⟩
 split at e
 ·rename_i g; simp only [Prod.mk.injEq] at e; exact absurd e.2 g
 split at e
 ·rename_i g; simp only [Prod.mk.injEq] at e; exact absurd e.2 g
 rename_i g;obtain ⟨l2, q1, q2, q3⟩ := recover_parts h.safe h.recs h.l80 h.room;rw [q1] at e g;simp only [Prod.mk.injEq, and_true] at e;subst e;refine ⟨l2, h.hand3, h.mail30, h.mails, rfl, q2, q3, ?_, fun _ => ⟨rfl, Prod.ext rfl (Decidable.not_not.1 g)⟩, (fun g => by simp at g), h.hands⟩;have := S.textOf_len q2;simp only [List.length_nil];omega
theorem okW_happen {w v : S.World} {l : List S.Rec} {x : S.Hap} (h : OkW w l) (e : S.happen w x = (v, 0)) : ∃ l2, OkW v (l ++ l2) := by
 unfold S.happen at e;split at e
 ·obtain ⟨l', q1, q2 | ⟨r, q2⟩⟩ := okW_hear h e
  ·exact ⟨[], by rw [List.append_nil, <- q2]; exact q1⟩
  ·exact ⟨[r], by rw [<- q2]; exact q1⟩
 split at e
 ·exact okW_power h e
 split at e
 ·cases e
 split at e
 ·cases e
 rename_i hw;rw [h.hand3] at hw;obtain ⟨y, y1, y2, y3⟩ := hand_at h (k := x.who) (by omega) (by omega);simp only [y2] at e;split at e
 ·split at e
  ·rename_i g; simp only [Prod.mk.injEq] at e; exact absurd e.2 g
  ·rename_i g;simp only [Prod.mk.injEq, and_true] at e;subst e;obtain ⟨a1, a2, a3, a4, a5⟩ := ask_ok (Decidable.not_not.1 g);obtain ⟨q1, q2, q3, q4, q5⟩ := checkHand_parts a5;rw [a1] at q1;refine ⟨[], ?_⟩;rw [List.append_nil];refine okW_post (okW_hand h _ a5) ?_;rw [a1];obtain ⟨b1, -, -, -, -⟩ := checkHand_parts a2;unfold S.checkMail;simp only at q1 ⊢;rw [if_neg (by omega), if_neg (by simp), if_neg (by simp)];unfold S.checkRec;rw [if_neg (by simp only; omega)];exact a3
 ·split at e
  ·cases e
  ·rename_i g;simp only [Prod.mk.injEq, and_true] at e;subst e;have gw : y.waits = true := by simpa using g
   obtain ⟨q1, q2, q3, q4, q5⟩ := checkHand_parts y3;rw [if_pos gw] at q3;refine ⟨[], ?_⟩;rw [List.append_nil];refine okW_post h ?_;unfold S.checkMail;simp only;rw [if_neg (by omega), if_neg (by simp), if_neg (by simp)];unfold S.checkRec;rw [if_neg (by simp only; omega)];exact q5 gw
theorem new_right : S.checkHall S.Hall.new = 0 := by decide
theorem replay_rightF : ∀ {l : List S.Rec} {h w : S.Hall}, S.checkHall h = 0 -> S.replayFrom h l = (w, 0) -> S.checkHall w = 0
 | [], h, w, h0, e => by
  simp only [S.replayFrom, Prod.mk.injEq, and_true] at e;rw [<- e]; exact h0
 | r :: l, h, w, h0, e => by
  rw [S.replayFrom] at e;by_cases g : (S.nextHall h r).2.2 ≠ 0
  ·rw [if_pos g] at e; simp only [Prod.mk.injEq] at e; exact absurd e.2 g
  ·rw [if_neg g] at e;exact replay_rightF (next_of (Decidable.not_not.1 g)).2.ok e
theorem replay_right {l : List S.Rec} {w : S.Hall} (e : S.replayFrom S.Hall.new l = (w, 0)) : S.checkHall w = 0 := replay_rightF new_right e
end Go.Proofs.YtadmfokicjjglaaGreatDoor.E
