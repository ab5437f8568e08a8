/- W2: Wd: a world that is right stays right, whatever happens: plain law. We: plain laws of worlds: in parts, standing, twice. Wf: worlds that are played: what was done, and told; plain laws StoryGrows, StoryKeys. Wg: StoryOnce, plain: commands of a hand are done in order, each once; what it got is what it was told. Wh: StoryStands, plain: what was written stands where it was told, till its zone is reset. Wi: StoryCalm, plain: a world that boots, whose mail is lost, in which each asks again. -/
import Derived.Test.YtginfkadmjikhaaGreatDoorK1
import Derived.Test.YtginfkadmjikhaaGreatDoorD4
import Derived.Test.YtginfkadmjikhaaGreatDoorSq
namespace Go.Proofs.YtginfkadmjikhaaGreatDoor.E
open Go.RowKit Go.Proofs
set_option linter.unusedVariables false
set_option linter.unusedSimpArgs false
structure OkW (w : S.World) (l : List S.Rec) : Prop where
  hand3 : w.hand.length = 3
  mail30 : w.mail.length ≤ 30
  mails : ∀ m, m ∈ w.mail → S.checkMail m = 0
  safe : w.d.safe = S.textOf l
  recs : ∀ r, r ∈ l → S.checkRec r = 0
  l80 : l.length ≤ 80
  room : w.d.wait.length + w.d.safe.length ≤ 60000
  up : w.up = true → w.d.wait = [] ∧ S.replay l = (w.h, 0)
  down : w.up = false → w.h = S.Hall.new
  hands : ∀ x, x ∈ w.hand → S.checkHand x = 0
theorem okW_disk {w : S.World} {l : List S.Rec} (h : OkW w l) : S.checkDisk w.d = 0 := by
  have e : w.d = ⟨S.textOf l, w.d.wait⟩ := by rw [← h.safe]
  have := h.room
  unfold S.checkDisk
  rw [if_neg (by omega), h.safe, S.lines_whole h.recs (by have := h.l80; omega)]
theorem okW_up {w : S.World} {l : List S.Rec} (h : OkW w l) (hu : w.up = true) : w.d = ⟨S.textOf l, []⟩ ∧ S.recoverDisk w.d = (⟨S.textOf l, []⟩, l, 0) := by
  have e : w.d = ⟨S.textOf l, []⟩ := by rw [← h.safe, ← (h.up hu).1]
  exact ⟨e, by rw [e]; exact S.recover_text h.recs h.l80⟩
theorem okW_check {w : S.World} {l : List S.Rec} (h : OkW w l) : S.checkWorld w = 0 := by
  have hd := okW_disk h
  have hr : (S.recoverDisk w.d).2.2 = 0 := by unfold S.recoverDisk; rw [if_neg (by simp [hd])]
  have hm : S.firstBad S.checkMail w.mail = 0 := firstBad_none fun j x _ hx => h.mails x (List.mem_of_getElem? hx)
  have hh : S.firstBad S.checkHand w.hand = 0 := firstBad_none fun j x _ hx => h.hands x (List.mem_of_getElem? hx)
  have hrep : S.replay (S.heard w) = (w.h, 0) := by
    unfold S.heard
    cases hu : w.up with
    | true => rw [if_pos rfl, (okW_up h hu).2]; exact (h.up hu).2
    | false => rw [if_neg (by simp), h.down hu]; rfl
  unfold S.checkWorld
  rw [if_neg (by simp [h.hand3]), if_neg (by have := h.mail30; omega), if_neg (by simp [hm]), if_neg (by simp [hr]), if_neg (fun g => by
    have := (h.up g.1).1
    rw [this] at g
    simp at g), hrep, if_neg (by simp), if_neg (by simp)]
  exact hh
theorem check_okW {w : S.World} (h : S.checkWorld w = 0) : ∃ l, OkW w l := by
  unfold S.checkWorld at h
  split at h
  · cases h
  rename_i h1
  split at h
  · cases h
  rename_i h2
  split at h
  · rename_i g; exact absurd h g
  rename_i h3
  split at h
  · rename_i g; exact absurd h g
  rename_i h4
  split at h
  · cases h
  rename_i h5
  split at h
  · rename_i g; exact absurd h g
  rename_i h6
  split at h
  · cases h
  rename_i h7
  have hd : S.checkDisk w.d = 0 := by
    have h4' : (S.recoverDisk w.d).2.2 = 0 := Decidable.not_not.1 h4
    unfold S.recoverDisk at h4'
    by_cases g : S.checkDisk w.d = 0
    · exact g
    · rw [if_pos g] at h4'; exact h4'
  obtain ⟨l, q1, q2, q3, q4⟩ := S.disk_right hd
  have hroom : w.d.wait.length + w.d.safe.length ≤ 60000 := by
    unfold S.checkDisk at hd
    by_cases g : 60000 < w.d.safe.length ∨ 60000 < w.d.wait.length + w.d.safe.length
    · rw [if_pos g] at hd; cases hd
    · omega
  have hup : w.up = true → w.d.wait = [] := fun hu => by
    refine List.eq_nil_of_length_eq_zero ?_
    by_cases g : 0 < w.d.wait.length
    · exact absurd ⟨hu, g⟩ h5
    · omega
  refine ⟨l, by omega, by omega, fun m hm => firstBad_zero (Decidable.not_not.1 h3) m hm, q1, q2, q3, hroom, fun hu => ⟨hup hu, ?_⟩, fun hu => ?_, fun x hx => firstBad_zero h x hx⟩
  · have e : w.d = ⟨S.textOf l, []⟩ := by rw [← q1, ← hup hu]
    have hh : S.heard w = l := by
      unfold S.heard
      rw [if_pos hu, e, S.recover_text q2 q3]
    rw [hh] at h6 h7
    exact Prod.ext (Decidable.not_not.1 h7) (Decidable.not_not.1 h6)
  · have hh : S.heard w = [] := by unfold S.heard; rw [if_neg (by simp [hu])]
    rw [hh] at h7
    exact (Decidable.not_not.1 h7).symm
theorem replayFrom_snoc : ∀ {l : List S.Rec} {h w : S.Hall} {r : S.Rec}, S.replayFrom h l = (w, 0) → S.replayFrom h (l ++ [r]) = if (S.nextHall w r).2.2 ≠ 0 then (S.Hall.zero, (S.nextHall w r).2.2) else ((S.nextHall w r).1, 0)
  | [], h, w, r, e => by
    simp only [S.replayFrom, Prod.mk.injEq, and_true] at e
    subst e
    rfl
  | x :: l, h, w, r, e => by
    rw [S.replayFrom] at e
    rw [List.cons_append, S.replayFrom]
    by_cases g : (S.nextHall h x).2.2 ≠ 0
    · rw [if_pos g] at e; simp only [Prod.mk.injEq] at e; exact absurd e.2 g
    · rw [if_neg g] at e ⊢
      exact replayFrom_snoc e
theorem okW_post {w : S.World} {l : List S.Rec} {m : S.Mail} (h : OkW w l) (hm : S.checkMail m = 0) : OkW (S.post w m) l := by
  unfold S.post
  split
  · rename_i g
    have h1 : (w.mail ++ [m]).length ≤ 30 := by simp; omega
    have h2 : ∀ x, x ∈ w.mail ++ [m] → S.checkMail x = 0 := fun x hx => (List.mem_append.1 hx).elim (h.mails x) (by simp; rintro rfl; exact hm)
    exact ⟨h.hand3, h1, h2, h.safe, h.recs, h.l80, h.room, h.up, h.down, h.hands⟩
  · exact h
theorem checkHand_of {h : S.Hand} (h1 : 0 ≤ h.seq ∧ h.seq ≤ 40) (h2 : ∀ a, a ∈ h.got → S.checkAnswer a = 0) (h3 : (h.got.length : Int) + (if h.waits = true then 1 else 0) = h.seq) (h4 : h.waits = false → h.c = S.Cmd.zero) (h5 : h.waits = true → S.checkCmd h.c = 0) : S.checkHand h = 0 := by
  have g : S.firstBad S.checkAnswer h.got = 0 := firstBad_none fun j x _ hx => h2 x (List.mem_of_getElem? hx)
  unfold S.checkHand
  rw [if_neg (by omega), if_neg (by simp [g]), if_neg (fun q => q.elim (fun q => q h3) (fun q => q.2 (h4 q.1)))]
  cases hw : h.waits with
  | true => rw [if_pos rfl]; exact h5 hw
  | false => rfl
theorem ask_ok {h : S.Hand} {c : S.Cmd} (e : (S.ask h c).2 = 0) : S.ask h c = (⟨h.seq + 1, true, c, h.got⟩, 0) ∧ S.checkHand h = 0 ∧ S.checkCmd c = 0 ∧ h.waits = false ∧ S.checkHand (S.ask h c).1 = 0 := by
  unfold S.ask at e ⊢
  by_cases h1 : S.checkHand h = 0
  rotate_left
  · rw [if_pos h1] at e; exact absurd e h1
  rw [if_neg (by simp [h1])] at e ⊢
  by_cases h2 : S.checkCmd c = 0
  rotate_left
  · rw [if_pos h2] at e; exact absurd e h2
  rw [if_neg (by simp [h2])] at e ⊢
  cases hw : h.waits with
  | true => rw [hw, if_pos rfl] at e; cases e
  | false =>
    rw [hw, if_neg (by simp)] at e
    rw [if_neg (by simp)]
    by_cases h3 : h.seq = 40
    · rw [if_pos h3] at e; cases e
    · rw [if_neg h3]
      obtain ⟨q1, q2, q3, q4, q5⟩ := checkHand_parts h1
      rw [hw] at q3
      refine ⟨rfl, h1, h2, rfl, checkHand_of ⟨by simp only; omega, by simp only; omega⟩ q2 (by simp only [if_true] at q3 ⊢; simp at q3; omega) (fun q => by cases q) (fun _ => h2)⟩
theorem hear_right {h : S.Hand} {q : Int} {a : S.Answer} (e : (S.hear h q a).2 = 0) : S.checkHand (S.hear h q a).1 = 0 := by
  obtain ⟨h1, h2, h3⟩ := hear_ok e
  rw [h3]
  by_cases g : h.waits = true ∧ q = h.seq
  · rw [if_pos g]
    obtain ⟨q1, q2, q3, q4, q5⟩ := checkHand_parts h1
    rw [if_pos g.1] at q3
    refine checkHand_of q1 (fun x hx => (List.mem_append.1 hx).elim (q2 x) (by simp; rintro rfl; exact h2)) (by simp; omega) (fun _ => rfl) (fun q => by cases q)
  · rw [if_neg g]; exact h1
theorem lines_full : ∀ {l : List S.Rec} (r : S.Rec) (m : Int), (∀ x, x ∈ l → S.checkRec x = 0) → S.checkRec r = 0 → (l.length : Int) = m → (S.lines (S.textOf (l ++ [r])) m).2.2 = 2
  | [], r, m, _, hr, hm => by
    have e : S.textOf ([] ++ [r]) = S.recText r ++ 10 :: [] := by simp [S.textOf]
    simp at hm
    rw [e, S.lines_some m (S.cut1_app _ (S.recText_no_line hr)), S.parse_rec hr, if_neg (by simp), if_pos hm.symm]
  | x :: l, r, m, h, hr, hm => by
    have e : S.textOf (x :: l ++ [r]) = S.recText x ++ 10 :: S.textOf (l ++ [r]) := by simp [S.textOf]
    simp only [List.length_cons] at hm
    rw [e, S.lines_some m (S.cut1_app _ (S.recText_no_line (h x (by simp)))), S.parse_rec (h x (by simp)), if_neg (by simp), if_neg (by omega)]
    exact lines_full r (m - 1) (fun y hy => h y (by simp [hy])) hr (by omega)
theorem okW_asked {w : S.World} {l : List S.Rec} {m : S.Mail} (h : OkW w l) (hu : w.up = true) : ∃ l', OkW (S.asked w m) l' ∧ (l' = l ∨ l' = l ++ [⟨m.who, m.seq, m.c⟩]) := by
  unfold S.asked
  obtain ⟨r, hr⟩ : ∃ r : S.Rec, (⟨m.who, m.seq, m.c⟩ : S.Rec) = r := ⟨_, rfl⟩
  rw [hr]
  by_cases e : (S.nextHall w.h r).2.2 = 0
  rotate_left
  · rw [if_pos e]; exact ⟨l, h, .inl rfl⟩
  rw [if_neg (by simp [e])]
  have hrec := S.nextHall_rec e
  obtain ⟨n1, n2⟩ := next_of e
  obtain ⟨p1, p2, p3, p4, p5⟩ := checkRec_parts hrec
  have hm : S.checkMail ⟨true, m.who, m.seq, S.Cmd.zero, (S.nextHall w.h r).2.1⟩ = 0 := by
    subst hr
    unfold S.checkMail
    simp only at p1 p2 p3 p4
    rw [if_neg (by simp only; omega), if_pos rfl, if_neg (by simp)]
    exact n2.ans
  split
  rotate_left
  · exact ⟨l, okW_post h hm, .inl rfl⟩
  obtain ⟨d1, d2⟩ := okW_up h hu
  rw [d1]
  have hput := S.put_text (w := []) h.recs h.l80 (by simp) hrec
  have e1 : ([] : List UInt8) ++ S.recText r ++ [10] = S.textOf [r] := by simp [S.textOf]
  rw [e1] at hput
  rw [hput, if_neg (by simp)]
  simp only
  by_cases hl : l.length < 80
  rotate_left
  · have : (S.syncDisk ⟨S.textOf l, S.textOf [r]⟩).2 ≠ 0 := by
      have hc := S.check_text (l := l) (w := S.textOf [r]) h.recs h.l80 (by have := S.textOf_len (l := [r]) (by simpa using hrec); simp at this; omega)
      have hlen := S.textOf_len (l := l ++ [r]) (fun x hx => (List.mem_append.1 hx).elim (h.recs x) (by simp; rintro rfl; exact hrec))
      have h80 := h.l80
      have hf := lines_full (l := l) r 80 h.recs hrec (by omega)
      have hc2 : S.checkDisk ⟨S.textOf (l ++ [r]), []⟩ = 2 := by
        unfold S.checkDisk
        rw [if_neg (by simp only [List.length_nil]; simp at hlen; omega)]
        exact hf
      unfold S.syncDisk
      simp only [← S.textOf_app]
      rw [if_neg (by simp [hc]), hc2, if_pos (by decide)]
      simp
    rw [if_pos this]
    exact ⟨l, h, .inl rfl⟩
  have hs := (S.step_text h.recs hrec hl).2
  rw [hs, if_neg (by simp)]
  have hrs : ∀ x, x ∈ l ++ [r] → S.checkRec x = 0 := fun x hx => (List.mem_append.1 hx).elim (h.recs x) (by simp; rintro rfl; exact hrec)
  refine ⟨l ++ [r], okW_post ⟨h.hand3, h.mail30, h.mails, rfl, hrs, by simp; omega, ?_, fun _ => ⟨rfl, ?_⟩, fun g => ?_, h.hands⟩ hm, .inr rfl⟩
  · have := S.textOf_len hrs
    simp only [List.length_nil] at this ⊢
    simp at this
    omega
  · have hf := (S.replay_ok (h.up hu).2).2
    unfold S.replay
    rw [if_neg (by simp; omega), replayFrom_snoc hf, if_neg (by simp [e])]
  · simp only [hu] at g; cases g
theorem okW_gone {w : S.World} {l : List S.Rec} (h : OkW w l) (n : Nat) : OkW { w with mail := w.mail.eraseIdx n } l :=
  ⟨h.hand3, by have := h.mail30; have := List.length_eraseIdx_le w.mail n; simp only; omega, fun m hm => h.mails m (List.mem_of_mem_eraseIdx hm), h.safe, h.recs, h.l80, h.room, h.up, h.down, h.hands⟩
theorem okW_hand {w : S.World} {l : List S.Rec} (h : OkW w l) (n : Nat) {x : S.Hand} (hx : S.checkHand x = 0) : OkW { w with hand := w.hand.set n x } l :=
  ⟨by simp only [List.length_set]; exact h.hand3, h.mail30, h.mails, h.safe, h.recs, h.l80, h.room, h.up, h.down, fun y hy => by
    rcases List.mem_or_eq_of_mem_set hy with g | g
    · exact h.hands y g
    · subst g; exact hx⟩
theorem hand_at {w : S.World} {l : List S.Rec} (h : OkW w l) {k : Int} (h0 : 0 ≤ k) (h1 : k < 3) : ∃ x, w.hand[k.toNat]? = some x ∧ w.hand.getD k.toNat S.Hand.zero = x ∧ S.checkHand x = 0 := by
  have hl : k.toNat < w.hand.length := by rw [h.hand3]; omega
  refine ⟨w.hand[k.toNat], by simp [hl], getD_of (by simp [hl]), h.hands _ (List.getElem_mem hl)⟩
theorem okW_hear {w v : S.World} {l : List S.Rec} {x : S.Hap} (h : OkW w l) (e : S.hearMail w x = (v, 0)) : ∃ l', OkW v l' ∧ (l' = l ∨ ∃ r, l' = l ++ [r]) := by
  unfold S.hearMail at e
  split at e
  · cases e
  rename_i hn
  simp only at e
  obtain ⟨m, hm⟩ : ∃ m, w.mail.getD x.n.toNat default = m := ⟨_, rfl⟩
  have hv : ∀ u : S.World, u = (if x.kind ≠ 4 then { w with mail := w.mail.eraseIdx x.n.toNat } else w) → OkW u l ∧ u.hand = w.hand ∧ u.up = w.up := fun u hu => by
    subst hu
    split
    · exact ⟨okW_gone h _, rfl, rfl⟩
    · exact ⟨h, rfl, rfl⟩
  obtain ⟨u, hu⟩ : ∃ u : S.World, (if x.kind ≠ 4 then { w with mail := w.mail.eraseIdx x.n.toNat } else w) = u := ⟨_, rfl⟩
  obtain ⟨h1, h2, h3⟩ := hv u hu.symm
  rw [hu, hm] at e
  split at e
  · cases e; exact ⟨l, h1, .inl rfl⟩
  · split at e
    · split at e
      · rename_i g; simp only [Prod.mk.injEq] at e; exact absurd e.2 g
      · rename_i g
        simp only [Prod.mk.injEq, and_true] at e
        subst e
        exact ⟨l, okW_hand h1 _ (hear_right (Decidable.not_not.1 g)), .inl rfl⟩
    · split at e
      · cases e
      · rename_i g
        simp only [Prod.mk.injEq, and_true] at e
        subst e
        obtain ⟨l', q1, q2⟩ := okW_asked (m := m) h1 (by simpa using g)
        exact ⟨l', q1, q2.elim .inl fun q => .inr ⟨_, q⟩⟩
theorem recover_parts {d : S.Disk} {l : List S.Rec} (hs : d.safe = S.textOf l) (hr : ∀ r, r ∈ l → S.checkRec r = 0) (h80 : l.length ≤ 80) (hroom : d.wait.length + d.safe.length ≤ 60000) :
    ∃ l2 : List S.Rec, S.recoverDisk d = (⟨S.textOf (l ++ l2), []⟩, l ++ l2, 0) ∧ (∀ r, r ∈ l ++ l2 → S.checkRec r = 0) ∧ (l ++ l2).length ≤ 80 := by
  have hd : S.checkDisk d = 0 := by
    unfold S.checkDisk
    rw [if_neg (by omega), hs, S.lines_whole hr (by omega)]
  obtain ⟨q1, q2, q3⟩ := S.linesF_part d.wait.length d.wait (80 - (l.length : Int)) (Nat.le_refl _)
  have hroom2 := S.lines_room d.wait (m := 80 - (l.length : Int)) (by omega)
  have hk : S.kept d = S.lines d.wait (80 - (l.length : Int)) := by
    unfold S.kept
    rw [hs, S.lines_whole hr (by omega)]
  refine ⟨(S.kept d).1, ?_, fun r hx => (List.mem_append.1 hx).elim (hr r) (by rw [hk]; exact q3 r), by rw [hk]; simp; omega⟩
  unfold S.recoverDisk
  rw [if_neg (by simp [hd])]
  have e1 : (S.lines d.safe 80).1 = l := by rw [hs, S.lines_whole hr (by omega)]
  rw [e1, S.textOf_app, ← hs, hk]
  have : d.wait.take (d.wait.length - (S.lines d.wait (80 - (l.length : Int))).2.1) = S.textOf (S.lines d.wait (80 - (l.length : Int))).1 := q1
  rw [this]
theorem okW_power {w v : S.World} {l : List S.Rec} {x : S.Hap} (h : OkW w l) (e : S.power w x = (v, 0)) : ∃ l2, OkW v (l ++ l2) := by
  unfold S.power at e
  split at e
  · cases e
  split at e
  · cases e
    exact ⟨[], by rw [List.append_nil]; exact ⟨h.hand3, h.mail30, h.mails, h.safe, h.recs, h.l80, h.room, (fun g => by cases g), fun _ => rfl, h.hands⟩⟩
  split at e
  · rename_i g; simp only [Prod.mk.injEq] at e; exact absurd e.2 g
  split at e
  · rename_i g; simp only [Prod.mk.injEq] at e; exact absurd e.2 g
  rename_i g
  obtain ⟨l2, q1, q2, q3⟩ := recover_parts h.safe h.recs h.l80 h.room
  rw [q1] at e g
  simp only [Prod.mk.injEq, and_true] at e
  subst e
  refine ⟨l2, h.hand3, h.mail30, h.mails, rfl, q2, q3, ?_, fun _ => ⟨rfl, Prod.ext rfl (Decidable.not_not.1 g)⟩, (fun g => by simp at g), h.hands⟩
  have := S.textOf_len q2
  simp only [List.length_nil]
  omega
theorem okW_happen {w v : S.World} {l : List S.Rec} {x : S.Hap} (h : OkW w l) (e : S.happen w x = (v, 0)) : ∃ l2, OkW v (l ++ l2) := by
  unfold S.happen at e
  split at e
  · obtain ⟨l', q1, q2 | ⟨r, q2⟩⟩ := okW_hear h e
    · exact ⟨[], by rw [List.append_nil, ← q2]; exact q1⟩
    · exact ⟨[r], by rw [← q2]; exact q1⟩
  split at e
  · exact okW_power h e
  split at e
  · cases e
  split at e
  · cases e
  rename_i hw
  rw [h.hand3] at hw
  obtain ⟨y, y1, y2, y3⟩ := hand_at h (k := x.who) (by omega) (by omega)
  simp only [y2] at e
  split at e
  · split at e
    · rename_i g; simp only [Prod.mk.injEq] at e; exact absurd e.2 g
    · rename_i g
      simp only [Prod.mk.injEq, and_true] at e
      subst e
      obtain ⟨a1, a2, a3, a4, a5⟩ := ask_ok (Decidable.not_not.1 g)
      obtain ⟨q1, q2, q3, q4, q5⟩ := checkHand_parts a5
      rw [a1] at q1
      refine ⟨[], ?_⟩
      rw [List.append_nil]
      refine okW_post (okW_hand h _ a5) ?_
      rw [a1]
      obtain ⟨b1, -, -, -, -⟩ := checkHand_parts a2
      unfold S.checkMail
      simp only at q1 ⊢
      rw [if_neg (by omega), if_neg (by simp), if_neg (by simp)]
      unfold S.checkRec
      rw [if_neg (by simp only; omega)]
      exact a3
  · split at e
    · cases e
    · rename_i g
      simp only [Prod.mk.injEq, and_true] at e
      subst e
      have gw : y.waits = true := by simpa using g
      obtain ⟨q1, q2, q3, q4, q5⟩ := checkHand_parts y3
      rw [if_pos gw] at q3
      refine ⟨[], ?_⟩
      rw [List.append_nil]
      refine okW_post h ?_
      unfold S.checkMail
      simp only
      rw [if_neg (by omega), if_neg (by simp), if_neg (by simp)]
      unfold S.checkRec
      rw [if_neg (by simp only; omega)]
      exact q5 gw
end Go.Proofs.YtginfkadmjikhaaGreatDoor.E
namespace Go.Proofs.YtginfkadmjikhaaGreatDoor.E
open Go.RowKit Go.Proofs
set_option linter.unusedVariables false
set_option linter.unusedSimpArgs false
theorem post_parts (w : S.World) (m : S.Mail) : (S.post w m).h = w.h ∧ (S.post w m).d = w.d ∧ (S.post w m).up = w.up ∧ (S.post w m).hand = w.hand ∧ (S.post w m).mail.length ≤ w.mail.length + 1 ∧ w.mail.length ≤ (S.post w m).mail.length ∧ ∀ k, k < w.mail.length → (S.post w m).mail.getD k default = w.mail.getD k default := by
  unfold S.post
  split
  · refine ⟨rfl, rfl, rfl, rfl, by simp, by simp, fun k hk => ?_⟩
    simp only [List.getD_eq_getElem?_getD, List.getElem?_append_left hk]
  · exact ⟨rfl, rfl, rfl, rfl, by omega, by omega, fun _ _ => rfl⟩
theorem asked_parts (w : S.World) (m : S.Mail) : (S.asked w m).hand = w.hand ∧ (S.asked w m).up = w.up ∧ w.mail.length ≤ (S.asked w m).mail.length ∧ (S.asked w m).mail.length ≤ w.mail.length + 1 := by
  unfold S.asked
  have hp : ∀ (v : S.World) (q : S.Mail), v.hand = w.hand → v.up = w.up → v.mail = w.mail → (S.post v q).hand = w.hand ∧ (S.post v q).up = w.up ∧ w.mail.length ≤ (S.post v q).mail.length ∧ (S.post v q).mail.length ≤ w.mail.length + 1 := fun v q h1 h2 h3 => by
    obtain ⟨p1, p2, p3, p4, p5, p6, p7⟩ := post_parts v q
    exact ⟨p4.trans h1, p3.trans h2, by rw [← h3]; exact p6, by rw [← h3]; exact p5⟩
  split
  · exact ⟨rfl, rfl, by omega, by omega⟩
  split
  · split
    · exact ⟨rfl, rfl, by omega, by omega⟩
    · split
      · exact ⟨rfl, rfl, by omega, by omega⟩
      · exact hp _ _ rfl rfl rfl
  · exact hp _ _ rfl rfl rfl
end Go.Proofs.YtginfkadmjikhaaGreatDoor.E
namespace Go.Proofs.YtginfkadmjikhaaGreatDoor.E
open Go.RowKit Go.Proofs
set_option linter.unusedVariables false
set_option linter.unusedSimpArgs false
theorem textOf_inj {a b : List S.Rec} (ha : ∀ r, r ∈ a → S.checkRec r = 0) (hb : ∀ r, r ∈ b → S.checkRec r = 0) (h : S.textOf a = S.textOf b) : a = b := by
  have h1 := S.lines_whole (m := (a.length + b.length : Nat)) ha (by omega)
  have h2 := S.lines_whole (m := (a.length + b.length : Nat)) hb (by omega)
  rw [h, h2] at h1
  exact (Prod.mk.inj h1).1.symm
structure Reach (w : S.World) (l : List S.Rec) : Prop where
  ok : OkW w l
  dry : w.d.wait = []
  rep : ∃ h, S.replay l = (h, 0)
theorem reach_disk {w : S.World} {l : List S.Rec} (h : Reach w l) : w.d = ⟨S.textOf l, []⟩ := by rw [← h.ok.safe, ← h.dry]
theorem reach_done {w : S.World} {l : List S.Rec} (h : Reach w l) : S.doneWorld w = (l, 0) := by
  unfold S.doneWorld
  rw [if_neg (by simp [okW_check h.ok]), reach_disk h, S.recover_text h.ok.recs h.ok.l80]
theorem checkHand0 : S.checkHand S.Hand.zero = 0 := by decide
theorem reach_new : Reach S.World.new [] := by
  have hh : ∀ x, x ∈ S.World.new.hand → S.checkHand x = 0 := fun x hx => by
    simp only [S.World.new, List.mem_cons, List.mem_nil_iff, or_false] at hx
    rcases hx with rfl | rfl | rfl <;> exact checkHand0
  have hm : ∀ m, m ∈ S.World.new.mail → S.checkMail m = 0 := fun m hm => by cases hm
  have hr : ∀ r : S.Rec, r ∈ [] → S.checkRec r = 0 := fun r hr => by cases hr
  exact ⟨⟨rfl, by decide, hm, rfl, hr, by decide, by decide, fun _ => ⟨rfl, rfl⟩, (fun h => by cases h), hh⟩, rfl, S.Hall.new, rfl⟩
theorem reach_same {w v : S.World} {l l' : List S.Rec} (h : Reach w l) (h' : OkW v l') (hd : v.d = w.d) : Reach v l := by
  have e : l' = l := textOf_inj h'.recs h.ok.recs (by rw [← h'.safe, ← h.ok.safe, hd])
  subst e
  exact ⟨h', by rw [hd]; exact h.dry, h.rep⟩
theorem reach_up {v : S.World} {l : List S.Rec} (h : OkW v l) (hu : v.up = true) : Reach v l := ⟨h, (h.up hu).1, _, (h.up hu).2⟩
theorem asked_disk {w : S.World} {m : S.Mail} {l : List S.Rec} (h : Reach w l) (hu : w.up = true) : ∃ l', Reach (S.asked w m) l' ∧ (l' = l ∨ l' = l ++ [⟨m.who, m.seq, m.c⟩]) := by
  obtain ⟨l', q1, q2⟩ := okW_asked (m := m) h.ok hu
  exact ⟨l', reach_up q1 ((asked_parts w m).2.1.trans hu), q2⟩
theorem reach_happen {w v : S.World} {l : List S.Rec} {x : S.Hap} (h : Reach w l) (e : S.happen w x = (v, 0)) : ∃ l', Reach v l' ∧ (l' = l ∨ ∃ r, l' = l ++ [r]) := by
  obtain ⟨l2, hl2⟩ := okW_happen h.ok e
  unfold S.happen at e
  split at e
  · unfold S.hearMail at e
    split at e
    · cases e
    simp only at e
    obtain ⟨m, hm⟩ : ∃ m, w.mail.getD x.n.toNat default = m := ⟨_, rfl⟩
    obtain ⟨u, hu⟩ : ∃ u : S.World, (if x.kind ≠ 4 then { w with mail := w.mail.eraseIdx x.n.toNat } else w) = u := ⟨_, rfl⟩
    have hu1 : u.d = w.d ∧ OkW u l := by
      subst hu
      split
      · exact ⟨rfl, okW_gone h.ok _⟩
      · exact ⟨rfl, h.ok⟩
    rw [hu, hm] at e
    split at e
    · cases e; exact ⟨l, reach_same h hl2 hu1.1, .inl rfl⟩
    split at e
    · split at e
      · rename_i g; simp only [Prod.mk.injEq] at e; exact absurd e.2 g
      · simp only [Prod.mk.injEq, and_true] at e
        subst e
        exact ⟨l, reach_same h hl2 hu1.1, .inl rfl⟩
    · split at e
      · cases e
      · rename_i g
        simp only [Prod.mk.injEq, and_true] at e
        subst e
        obtain ⟨l', q1, q2⟩ := asked_disk (m := m) (reach_same h hu1.2 hu1.1) (by simpa using g)
        exact ⟨l', q1, q2.elim .inl fun q => .inr ⟨_, q⟩⟩
  split at e
  · unfold S.power at e
    split at e
    · cases e
    split at e
    · cases e; exact ⟨l, reach_same h hl2 rfl, .inl rfl⟩
    split at e
    · rename_i g; simp only [Prod.mk.injEq] at e; exact absurd e.2 g
    split at e
    · rename_i g; simp only [Prod.mk.injEq] at e; exact absurd e.2 g
    simp only [Prod.mk.injEq, and_true] at e
    have hd : (S.recoverDisk w.d).1 = w.d := by rw [reach_disk h, S.recover_text h.ok.recs h.ok.l80]
    exact ⟨l, reach_same h hl2 (by rw [← e]; exact hd), .inl rfl⟩
  split at e
  · cases e
  split at e
  · cases e
  simp only at e
  split at e
  · split at e
    · rename_i g; simp only [Prod.mk.injEq] at e; exact absurd e.2 g
    · simp only [Prod.mk.injEq, and_true] at e
      subst e
      exact ⟨l, reach_same h hl2 (post_parts _ _).2.1, .inl rfl⟩
  · split at e
    · cases e
    · simp only [Prod.mk.injEq, and_true] at e
      subst e
      exact ⟨l, reach_same h hl2 (post_parts _ _).2.1, .inl rfl⟩
def answersFrom (h : S.Hall) : List S.Rec → List S.Answer
  | [] => []
  | r :: l => (S.nextHall h r).2.1 :: answersFrom (S.nextHall h r).1 l
theorem answersFrom_len : ∀ (l : List S.Rec) (h : S.Hall), (answersFrom h l).length = l.length
  | [], h => rfl
  | r :: l, h => by simp [answersFrom, answersFrom_len l]
theorem answersFrom_app : ∀ {a : List S.Rec} (b : List S.Rec) {h m : S.Hall}, S.replayFrom h a = (m, 0) → answersFrom h (a ++ b) = answersFrom h a ++ answersFrom m b
  | [], b, h, m, e => by
    simp only [S.replayFrom, Prod.mk.injEq, and_true] at e
    subst e
    rfl
  | r :: a, b, h, m, e => by
    rw [S.replayFrom] at e
    by_cases g : (S.nextHall h r).2.2 ≠ 0
    · rw [if_pos g] at e; simp only [Prod.mk.injEq] at e; exact absurd e.2 g
    · rw [if_neg g] at e
      simp only [List.cons_append, answersFrom, answersFrom_app b e]
theorem story_grows {w v : S.World} {l : List S.Rec} {x : S.Hap} (h : Reach w l) (e : S.happen w x = (v, 0)) :
    ∃ l', Reach v l' ∧ l'.take l.length = l ∧ (answersFrom S.Hall.new l').take l.length = answersFrom S.Hall.new l := by
  obtain ⟨l', q1, rfl | ⟨r, rfl⟩⟩ := reach_happen h e
  · refine ⟨l', q1, List.take_length, ?_⟩
    rw [← answersFrom_len l' S.Hall.new, List.take_length]
  · refine ⟨_, q1, List.take_left, ?_⟩
    obtain ⟨m, hm⟩ := h.rep
    rw [answersFrom_app [r] (S.replay_ok hm).2, ← answersFrom_len l S.Hall.new, List.take_left]
end Go.Proofs.YtginfkadmjikhaaGreatDoor.E
namespace Go.Proofs.YtginfkadmjikhaaGreatDoor.E
open Go.RowKit Go.Proofs
set_option linter.unusedVariables false
set_option linter.unusedSimpArgs false
def mine (k : Int) (l : List S.Rec) : List (S.Rec × S.Answer) := (l.zip (answersFrom S.Hall.new l)).filter fun p => decide (p.1.who = k)
theorem mine_snoc {l : List S.Rec} {h : S.Hall} (r : S.Rec) (k : Int) (e : S.replay l = (h, 0)) : mine k (l ++ [r]) = mine k l ++ (if r.who = k then [(r, (S.nextHall h r).2.1)] else []) := by
  unfold mine
  rw [answersFrom_app [r] (S.replay_ok e).2, List.zip_append (by rw [answersFrom_len]), List.filter_append]
  congr 1
  simp only [answersFrom, List.zip_cons_cons, List.zip_nil_right]
  by_cases g : r.who = k
  · simp [g]
  · simp [g]
structure Once (w : S.World) (l : List S.Rec) : Prop where
  reach : Reach w l
  num : ∀ (k : Int) (i : Nat) (p : S.Rec × S.Answer), (mine k l)[i]? = some p → p.1.seq = (i : Int) + 1
  last : ∀ h : S.Hall, S.replay l = (h, 0) → ∀ n : Nat, n < 3 → ∃ y, h.last[n]? = some y ∧ y.seq = ((mine n l).length : Int) ∧ ∀ p, (mine n l).getLast? = some p → y.a = p.2
  got : ∀ (n : Nat) (x : S.Hand), w.hand[n]? = some x → x.got.length ≤ (mine n l).length ∧ ((mine n l).length : Int) ≤ x.seq ∧ ∀ (i : Nat) (a : S.Answer), x.got[i]? = some a → ∃ p, (mine n l)[i]? = some p ∧ p.2 = a
  mailTo : ∀ m, m ∈ w.mail → m.back = false → ∀ x, w.hand[m.who.toNat]? = some x → m.seq ≤ x.seq
  mailBack : ∀ m, m ∈ w.mail → m.back = true → ∃ p, (mine m.who l)[(m.seq - 1).toNat]? = some p ∧ p.2 = m.a
theorem once_less {w v : S.World} {l : List S.Rec} (h : Once w l) (hr : Reach v l) (hh : v.hand = w.hand) (hm : ∀ m, m ∈ v.mail → m ∈ w.mail) : Once v l :=
  ⟨hr, h.num, h.last, by rw [hh]; exact h.got, fun m q => by rw [hh]; exact h.mailTo m (hm m q), fun m q => h.mailBack m (hm m q)⟩
theorem once_post {w : S.World} {l : List S.Rec} {m : S.Mail} (h : Once w l) (hr : Reach (S.post w m) l) (h1 : m.back = false → ∀ x, w.hand[m.who.toNat]? = some x → m.seq ≤ x.seq) (h2 : m.back = true → ∃ p, (mine m.who l)[(m.seq - 1).toNat]? = some p ∧ p.2 = m.a) : Once (S.post w m) l := by
  have hh := (post_parts w m).2.2.2.1
  have hm : ∀ q, q ∈ (S.post w m).mail → q ∈ w.mail ∨ q = m := fun q hq => by
    unfold S.post at hq
    split at hq
    · simpa using hq
    · exact .inl hq
  refine ⟨hr, h.num, h.last, by rw [hh]; exact h.got, fun q hq hb => ?_, fun q hq hb => ?_⟩
  · rw [hh]
    rcases hm q hq with g | rfl
    · exact h.mailTo q g hb
    · exact h1 hb
  · rcases hm q hq with g | rfl
    · exact h.mailBack q g hb
    · exact h2 hb
theorem once_hand {w : S.World} {l : List S.Rec} {n : Nat} {x y : S.Hand} (h : Once w l) (hr : Reach { w with hand := w.hand.set n y } l) (hx : w.hand[n]? = some x) (hs : x.seq ≤ y.seq)
    (hg : y.got.length ≤ (mine n l).length ∧ ∀ (i : Nat) (a : S.Answer), y.got[i]? = some a → ∃ p, (mine n l)[i]? = some p ∧ p.2 = a) : Once { w with hand := w.hand.set n y } l := by
  have hlt := (List.getElem?_eq_some_iff.1 hx).1
  have hat : ∀ (j : Nat) (z : S.Hand), (w.hand.set n y)[j]? = some z → (j = n ∧ z = y) ∨ (j ≠ n ∧ w.hand[j]? = some z) := fun j z hz => by
    by_cases g : j = n
    · subst g
      rw [List.getElem?_set_self hlt] at hz
      exact .inl ⟨rfl, (Option.some.inj hz).symm⟩
    · rw [List.getElem?_set_ne (fun q => g q.symm)] at hz
      exact .inr ⟨g, hz⟩
  refine ⟨hr, h.num, h.last, fun j z hz => ?_, fun m hm hb z hz => ?_, h.mailBack⟩
  · rcases hat j z hz with ⟨rfl, rfl⟩ | ⟨-, q⟩
    · have := (h.got _ x hx).2.1
      exact ⟨hg.1, by omega, hg.2⟩
    · exact h.got j z q
  · rcases hat _ z hz with ⟨q, rfl⟩ | ⟨-, q⟩
    · have := h.mailTo m hm hb x (by rw [q]; exact hx)
      omega
    · exact h.mailTo m hm hb z q
theorem once_asked {w : S.World} {l : List S.Rec} {m : S.Mail} (h : Once w l) (hu : w.up = true) (hmt : ∀ x, w.hand[m.who.toNat]? = some x → m.seq ≤ x.seq) : ∃ l', Once (S.asked w m) l' := by
  obtain ⟨l', q1, q2⟩ := asked_disk (m := m) h.reach hu
  obtain ⟨r, hr⟩ : ∃ r : S.Rec, (⟨m.who, m.seq, m.c⟩ : S.Rec) = r := ⟨_, rfl⟩
  rw [hr] at q2
  have hrep : S.replay l = (w.h, 0) := (h.reach.ok.up hu).2
  have keep : S.asked w m = w → ∃ l', Once (S.asked w m) l' := fun e => by rw [e]; exact ⟨l, h⟩
  by_cases e : (S.nextHall w.h r).2.2 = 0
  rotate_left
  · exact keep (by unfold S.asked; rw [hr, if_pos e])
  obtain ⟨n1, n2⟩ := next_of e
  obtain ⟨n, w1, w2, w3⟩ := n2.who
  have hwho : m.who = n := by rw [← w1, ← hr]
  have hseq : r.seq = m.seq := by rw [← hr]
  obtain ⟨y, y1, y2, y3⟩ := h.last w.h hrep n w2
  have hget : w.h.last.getD m.who.toNat S.Last.zero = y := by rw [hwho]; simp only [Int.toNat_natCast]; exact getD_of y1
  have hrange := checkRec_parts n2.r0
  by_cases g : y.seq < m.seq
  rotate_left
  · have e0 : S.asked w m = S.post w ⟨true, m.who, m.seq, S.Cmd.zero, (S.nextHall w.h r).2.1⟩ := by
      unfold S.asked
      rw [hr, if_neg (by simp [e]), hget, if_neg g]
    have hl : l' = l := by
      have hd : (S.asked w m).d = w.d := by rw [e0]; exact (post_parts _ _).2.1
      exact textOf_inj q1.ok.recs h.reach.ok.recs (by rw [← q1.ok.safe, ← h.reach.ok.safe, hd])
    subst hl
    refine ⟨l', ?_⟩
    rw [e0] at q1 ⊢
    refine once_post h q1 (fun q => by cases q) fun _ => ?_
    simp only
    have hx : w.h.last[n]? = some ⟨r.seq, (S.nextHall w.h r).2.1⟩ := by
      rcases n2.did with ⟨d1, n', d2, d3⟩ | ⟨⟨n', x, d2, d3, d4⟩, -⟩
      · have : n' = n := by omega
        subst this; exact d3
      · have : n' = n := by omega
        subst this
        rw [y1] at d3
        cases d3
        omega
    rw [y1] at hx
    cases hx
    simp only at y2 y3
    rw [hwho]
    have hlen : (mine (n : Int) l').length = (m.seq - 1).toNat + 1 := by omega
    obtain ⟨p, hp⟩ : ∃ p, (mine (n : Int) l').getLast? = some p := by
      cases hm : mine (n : Int) l' with
      | nil => rw [hm] at hlen; simp at hlen
      | cons a b => exact ⟨_, List.getLast?_eq_some_getLast (by simp)⟩
    refine ⟨p, ?_, (y3 p hp).symm⟩
    rw [List.getLast?_eq_getElem?, hlen] at hp
    simpa using hp
  · by_cases e1 : (S.putDisk w.d r).2 = 0
    rotate_left
    · exact keep (by unfold S.asked; rw [hr, if_neg (by simp [e]), hget, if_pos g, if_pos e1])
    by_cases e2 : (S.syncDisk (S.putDisk w.d r).1).2 = 0
    rotate_left
    · exact keep (by unfold S.asked; rw [hr, if_neg (by simp [e]), hget, if_pos g, if_neg (by simp [e1]), if_pos e2])
    obtain ⟨v, hv⟩ : ∃ v : S.World, ({ w with d := (S.syncDisk (S.putDisk w.d r).1).1, h := (S.nextHall w.h r).1 } : S.World) = v := ⟨_, rfl⟩
    have e0 : S.asked w m = S.post v ⟨true, m.who, m.seq, S.Cmd.zero, (S.nextHall w.h r).2.1⟩ := by
      unfold S.asked
      rw [hr, if_neg (by simp [e]), hget, if_pos g, if_neg (by simp [e1]), if_neg (by simp [e2]), hv]
    have hl : l' = l ++ [r] := by
      rcases q2 with q2 | q2
      · exfalso
        have hput := S.put_text (w := []) h.reach.ok.recs h.reach.ok.l80 (by simp) n2.r0
        have hd : (S.asked w m).d = (S.syncDisk (S.putDisk w.d r).1).1 := by rw [e0, (post_parts _ _).2.1, ← hv]
        have hs : ((S.syncDisk (S.putDisk w.d r).1).1).safe = S.textOf l ++ (S.recText r ++ [10]) := by
          rw [reach_disk h.reach, hput] at e2 ⊢
          simp only [List.nil_append] at e2 ⊢
          unfold S.syncDisk at e2 ⊢
          by_cases f1 : S.checkDisk ⟨S.textOf l, S.recText r ++ [10]⟩ ≠ 0
          · rw [if_pos f1] at e2; exact absurd e2 f1
          · rw [if_neg f1] at e2 ⊢
            simp only at e2 ⊢
            by_cases f2 : S.checkDisk ⟨S.textOf l ++ (S.recText r ++ [10]), []⟩ ≠ 0
            · rw [if_pos f2] at e2; exact absurd e2 f2
            · rw [if_neg f2]
        have := q1.ok.safe
        rw [hd, hs, q2] at this
        have := congrArg List.length this
        simp at this
      · exact q2
    subst hl
    refine ⟨l ++ [r], ?_⟩
    have hm' : ∀ k : Int, mine k (l ++ [r]) = mine k l ++ (if r.who = k then [(r, (S.nextHall w.h r).2.1)] else []) := fun k => mine_snoc r k hrep
    have hr1 : r.seq = y.seq + 1 := by
      rcases n2.did with ⟨d1, n', d2, d3⟩ | ⟨⟨n', x, d2, d3, d4⟩, -⟩
      · have : n' = n := by omega
        subst this
        rw [y1] at d3
        cases d3
        simp only at g
        omega
      · have : n' = n := by omega
        subst this
        rw [y1] at d3
        cases d3
        exact d4
    have hmn : mine (n : Int) (l ++ [r]) = mine (n : Int) l ++ [(r, (S.nextHall w.h r).2.1)] := by rw [hm', if_pos w1]
    have vhand : v.hand = w.hand := by rw [← hv]
    have vmail : v.mail = w.mail := by rw [← hv]
    obtain ⟨p1, p2, p3, p4, p5, p6, p7⟩ := post_parts v ⟨true, m.who, m.seq, S.Cmd.zero, (S.nextHall w.h r).2.1⟩
    have pm : ∀ q, q ∈ (S.asked w m).mail → q ∈ w.mail ∨ q = ⟨true, m.who, m.seq, S.Cmd.zero, (S.nextHall w.h r).2.1⟩ := fun q hq => by
      rw [e0] at hq
      unfold S.post at hq
      rw [← vmail]
      split at hq
      · simpa using hq
      · exact .inl hq
    have ph : (S.asked w m).hand = w.hand := by rw [e0, p4, vhand]
    have grow : ∀ (k : Int) (i : Nat) (p : S.Rec × S.Answer), (mine k l)[i]? = some p → (mine k (l ++ [r]))[i]? = some p := fun k i p hp => by
      rw [hm', List.getElem?_append_left (List.getElem?_eq_some_iff.1 hp).1]
      exact hp
    refine ⟨q1, fun k i p hp => ?_, fun H hH j hj => ?_, fun j x hx => ?_, fun q hq hb x hx => ?_, fun q hq hb => ?_⟩
    · by_cases gi : i < (mine k l).length
      · rw [hm', List.getElem?_append_left gi] at hp
        exact h.num k i p hp
      · by_cases gk : r.who = k
        · have hk : k = n := by omega
          subst hk
          rw [hmn, List.getElem?_append_right (by omega)] at hp
          have : i - (mine (n : Int) l).length = 0 := by
            have := (List.getElem?_eq_some_iff.1 hp).1
            simp at this
            omega
          rw [this] at hp
          cases hp
          simp only
          omega
        · rw [hm', if_neg gk, List.append_nil] at hp
          exact absurd (List.getElem?_eq_some_iff.1 hp).1 gi
    · have hf := (S.replay_ok hrep).2
      have hH2 : H = (S.nextHall w.h r).1 := by
        have := (S.replay_ok hH).2
        rw [replayFrom_snoc hf, if_neg (by simp [e])] at this
        exact (Prod.mk.inj this).1.symm
      rw [hH2]
      by_cases gj : j = n
      · subst gj
        refine ⟨_, w3, by rw [hmn]; simp only [List.length_append, List.length_cons, List.length_nil]; omega, fun p hp => ?_⟩
        rw [hmn, List.getLast?_append] at hp
        simp at hp
        rw [← hp]
      · rw [n2.others j (by omega)]
        obtain ⟨z, z1, z2, z3⟩ := h.last w.h hrep j hj
        have : mine (j : Int) (l ++ [r]) = mine (j : Int) l := by rw [hm', if_neg (by omega), List.append_nil]
        rw [this]
        exact ⟨z, z1, z2, z3⟩
    · rw [ph] at hx
      obtain ⟨t1, t2, t3⟩ := h.got j x hx
      refine ⟨by rw [hm']; simp only [List.length_append]; omega, ?_, fun i a ha => ?_⟩
      · by_cases gj : j = n
        · subst gj
          have := hmt x (by rw [hwho]; simpa using hx)
          rw [hmn]
          simp only [List.length_append, List.length_cons, List.length_nil]
          omega
        · rw [hm', if_neg (by omega), List.append_nil]
          exact t2
      · obtain ⟨p, s1, s2⟩ := t3 i a ha
        exact ⟨p, grow _ i p s1, s2⟩
    · rw [ph] at hx
      rcases pm q hq with s | rfl
      · exact h.mailTo q s hb x hx
      · cases hb
    · rcases pm q hq with s | rfl
      · obtain ⟨p, s1, s2⟩ := h.mailBack q s hb
        exact ⟨p, grow _ _ p s1, s2⟩
      · refine ⟨(r, (S.nextHall w.h r).2.1), ?_, rfl⟩
        simp only
        rw [hwho, hmn, List.getElem?_append_right (by omega)]
        have : (m.seq - 1).toNat - (mine (n : Int) l).length = 0 := by omega
        rw [this]
        rfl
theorem once_happen {w v : S.World} {l : List S.Rec} {x : S.Hap} (h : Once w l) (e : S.happen w x = (v, 0)) : ∃ l', Once v l' := by
  obtain ⟨l2, hl2⟩ := okW_happen h.reach.ok e
  unfold S.happen at e
  split at e
  · unfold S.hearMail at e
    split at e
    · cases e
    rename_i hn
    simp only at e
    obtain ⟨m, hm⟩ : ∃ m, w.mail.getD x.n.toNat default = m := ⟨_, rfl⟩
    have hmem : m ∈ w.mail := by
      rw [← hm, List.getD_eq_getElem?_getD, List.getElem?_eq_getElem (by omega : x.n.toNat < w.mail.length)]
      exact List.getElem_mem _
    obtain ⟨u, hu⟩ : ∃ u : S.World, (if x.kind ≠ 4 then { w with mail := w.mail.eraseIdx x.n.toNat } else w) = u := ⟨_, rfl⟩
    have hu1 : u.d = w.d ∧ u.hand = w.hand ∧ OkW u l ∧ ∀ q, q ∈ u.mail → q ∈ w.mail := by
      subst hu
      split
      · exact ⟨rfl, rfl, okW_gone h.reach.ok _, fun q hq => List.mem_of_mem_eraseIdx hq⟩
      · exact ⟨rfl, rfl, h.reach.ok, fun q hq => hq⟩
    obtain ⟨u1, u2, u3, u4⟩ := hu1
    have hou : Once u l := once_less h (reach_same h.reach u3 u1) u2 u4
    rw [hu, hm] at e
    split at e
    · cases e; exact ⟨l, hou⟩
    split at e
    · rename_i hb
      split at e
      · rename_i g; simp only [Prod.mk.injEq] at e; exact absurd e.2 g
      · rename_i g
        simp only [Prod.mk.injEq, and_true] at e
        have hmail := h.reach.ok.mails m hmem
        have hwho : (0 ≤ m.who ∧ m.who < 3) ∧ 1 ≤ m.seq := by
          unfold S.checkMail at hmail
          by_cases q : m.who < 0 ∨ 3 ≤ m.who ∨ m.seq < 1 ∨ 40 < m.seq
          · rw [if_pos q] at hmail; cases hmail
          · omega
        obtain ⟨z, z1, z2, z3⟩ := hand_at u3 hwho.1.1 hwho.1.2
        rw [z2] at e g
        obtain ⟨t1, t2, t3⟩ := hear_ok (Decidable.not_not.1 g)
        have hr : Reach v l := reach_same h.reach hl2 (by rw [← e]; exact u1)
        rw [← e] at hr ⊢
        obtain ⟨s1, s2, s3⟩ := hou.got m.who.toNat z z1
        have hk : ((m.who.toNat : Nat) : Int) = m.who := by omega
        refine ⟨l, once_hand hou hr z1 ?_ ?_⟩
        · rw [t3]
          by_cases q : z.waits = true ∧ m.seq = z.seq
          · rw [if_pos q]; simp only; omega
          · rw [if_neg q]; simp
        · rw [t3]
          by_cases q : z.waits = true ∧ m.seq = z.seq
          · rw [if_pos q]
            obtain ⟨p, p1, p2⟩ := h.mailBack m hmem hb
            obtain ⟨-, -, c3, -, -⟩ := checkHand_parts z3
            rw [if_pos q.1] at c3
            have hi : (m.seq - 1).toNat = z.got.length := by omega
            rw [hi] at p1
            rw [hk] at s1 s2 s3 ⊢
            have hlt := (List.getElem?_eq_some_iff.1 p1).1
            refine ⟨by simp only [List.length_append, List.length_cons, List.length_nil]; omega, fun i a ha => ?_⟩
            by_cases gi : i < z.got.length
            · rw [List.getElem?_append_left gi] at ha
              exact s3 i a ha
            · have hi2 : i = z.got.length := by
                have := (List.getElem?_eq_some_iff.1 ha).1
                simp at this
                omega
              subst hi2
              rw [List.getElem?_append_right (by omega), Nat.sub_self] at ha
              cases ha
              exact ⟨p, p1, p2⟩
          · rw [if_neg q]; exact ⟨s1, s3⟩
    · rename_i hb
      split at e
      · cases e
      · rename_i g
        simp only [Prod.mk.injEq, and_true] at e
        rw [← e]
        exact once_asked hou (by simpa using g) (by rw [u2]; exact h.mailTo m hmem (by simpa using hb))
  split at e
  · unfold S.power at e
    split at e
    · cases e
    split at e
    · cases e; exact ⟨l, once_less h (reach_same h.reach hl2 rfl) rfl (fun q hq => hq)⟩
    split at e
    · rename_i g; simp only [Prod.mk.injEq] at e; exact absurd e.2 g
    split at e
    · rename_i g; simp only [Prod.mk.injEq] at e; exact absurd e.2 g
    simp only [Prod.mk.injEq, and_true] at e
    have hd : (S.recoverDisk w.d).1 = w.d := by rw [reach_disk h.reach, S.recover_text h.reach.ok.recs h.reach.ok.l80]
    exact ⟨l, once_less h (reach_same h.reach hl2 (by rw [← e]; exact hd)) (by rw [← e]) (fun q hq => by rw [← e] at hq; exact hq)⟩
  split at e
  · cases e
  split at e
  · cases e
  rename_i hw
  rw [h.reach.ok.hand3] at hw
  obtain ⟨y, y1, y2, y3⟩ := hand_at h.reach.ok (k := x.who) (by omega) (by omega)
  simp only [y2] at e
  split at e
  · split at e
    · rename_i g; simp only [Prod.mk.injEq] at e; exact absurd e.2 g
    · rename_i g
      simp only [Prod.mk.injEq, and_true] at e
      obtain ⟨a1, a2, a3, a4, a5⟩ := ask_ok (Decidable.not_not.1 g)
      have hr0 : Reach { w with hand := w.hand.set x.who.toNat (S.ask y x.c).1 } l := reach_same h.reach (okW_hand h.reach.ok _ a5) rfl
      have hr : Reach v l := reach_same h.reach hl2 (by rw [← e]; exact (post_parts _ _).2.1)
      obtain ⟨s1, s2, s3⟩ := h.got _ y y1
      have hg : (S.ask y x.c).1.got = y.got := by rw [a1]
      have ho := once_hand h hr0 y1 (by rw [a1]; simp only; omega) (by rw [hg]; exact ⟨s1, s3⟩)
      rw [← e] at hr ⊢
      refine ⟨l, once_post ho hr (fun _ z hz => ?_) (fun q => by cases q)⟩
      simp only at hz ⊢
      rw [List.getElem?_set_self (List.getElem?_eq_some_iff.1 y1).1] at hz
      cases hz
      omega
  · split at e
    · cases e
    · simp only [Prod.mk.injEq, and_true] at e
      have hr : Reach v l := reach_same h.reach hl2 (by rw [← e]; exact (post_parts _ _).2.1)
      rw [← e] at hr ⊢
      refine ⟨l, once_post h hr (fun _ z hz => ?_) (fun q => by cases q)⟩
      simp only at hz ⊢
      rw [y1] at hz
      cases hz
      omega
theorem once_new : Once S.World.new [] := by
  have hm : ∀ k : Int, mine k [] = [] := fun k => rfl
  have hh : ∀ (n : Nat) (x : S.Hand), S.World.new.hand[n]? = some x → x = S.Hand.zero := fun n x hx => by
    have := List.mem_of_getElem? hx
    simp only [S.World.new, List.mem_cons, List.mem_nil_iff, or_false] at this
    rcases this with rfl | rfl | rfl <;> rfl
  refine ⟨reach_new, (fun k i p hp => by rw [hm] at hp; simp at hp), fun h hr n hn => ?_, fun n x hx => ?_, (fun m hmm => by cases hmm), (fun m hmm => by cases hmm)⟩
  · have : h = S.Hall.new := (Prod.mk.inj hr).1.symm
    subst this
    refine ⟨S.Last.zero, ?_, by rw [hm]; rfl, fun p hp => by rw [hm] at hp; cases hp⟩
    have : n = 0 ∨ n = 1 ∨ n = 2 := by omega
    rcases this with rfl | rfl | rfl <;> rfl
  · have := hh n x hx
    subst this
    exact ⟨by rw [hm]; simp [S.Hand.zero], by rw [hm]; simp [S.Hand.zero], fun i a ha => by simp [S.Hand.zero] at ha⟩
end Go.Proofs.YtginfkadmjikhaaGreatDoor.E
namespace Go.Proofs.YtginfkadmjikhaaGreatDoor.E
open Go.RowKit Go.Proofs
set_option linter.unusedVariables false
set_option linter.unusedSimpArgs false
end Go.Proofs.YtginfkadmjikhaaGreatDoor.E
namespace Go.Proofs.YtginfkadmjikhaaGreatDoor.E
open Go.RowKit Go.Proofs
set_option linter.unusedVariables false
set_option linter.unusedSimpArgs false
theorem doW_of {w v : S.World} {l : List S.Rec} {x : S.Hap} (h : Once w l) (e : S.happen w x = (v, 0)) : S.doWorld w x = (v, 0) := by
  unfold S.doWorld
  rw [if_neg (by simp [okW_check h.reach.ok]), e, if_neg (by simp)]
theorem calm_boot {w : S.World} {l : List S.Rec} (h : Once w l) : (w.up = true ∧ (S.doWorld w ⟨7, 0, 0, S.Cmd.zero⟩).2 ≠ 0) ∨ ∃ v, S.doWorld w ⟨7, 0, 0, S.Cmd.zero⟩ = (v, 0) ∧ Once v l ∧ v.up = true ∧ v.hand = w.hand ∧ v.mail = w.mail := by
  have hp : S.happen w ⟨7, 0, 0, S.Cmd.zero⟩ = S.power w ⟨7, 0, 0, S.Cmd.zero⟩ := by
    unfold S.happen
    rw [if_neg (by simp), if_pos (by simp)]
  cases hu : w.up with
  | true =>
    refine .inl ⟨rfl, ?_⟩
    unfold S.doWorld
    rw [if_neg (by simp [okW_check h.reach.ok]), hp]
    have e : S.power w ⟨7, 0, 0, S.Cmd.zero⟩ = (w, 6) := by
      unfold S.power
      rw [if_pos (by simp [hu])]
    rw [e, if_pos (by simp)]
    simp
  | false =>
    right
    obtain ⟨H, hH⟩ := h.reach.rep
    have hd := reach_disk h.reach
    have hrec : S.recoverDisk w.d = (w.d, l, 0) := by rw [hd, S.recover_text h.reach.ok.recs h.reach.ok.l80]
    have e : S.happen w ⟨7, 0, 0, S.Cmd.zero⟩ = ({ w with h := H, d := w.d, up := true }, 0) := by
      rw [hp]
      unfold S.power
      rw [if_neg (by simp [hu]), if_neg (by simp), hrec]
      simp only
      rw [hH, if_neg (by simp), if_neg (by simp)]
    refine ⟨{ w with h := H, d := w.d, up := true }, doW_of h e, ?_, rfl, rfl, rfl⟩
    obtain ⟨l2, hl2⟩ := okW_happen h.reach.ok e
    exact once_less h (reach_same h.reach hl2 rfl) rfl (fun q hq => hq)
theorem calm_lose {w : S.World} {l : List S.Rec} {m : S.Mail} {ms : List S.Mail} (h : Once w l) (hm : w.mail = m :: ms) : S.doWorld w ⟨5, 0, 0, S.Cmd.zero⟩ = ({ w with mail := ms }, 0) ∧ Once { w with mail := ms } l := by
  have e : S.happen w ⟨5, 0, 0, S.Cmd.zero⟩ = ({ w with mail := ms }, 0) := by
    unfold S.happen
    rw [if_pos (by simp)]
    unfold S.hearMail
    rw [if_neg (by rw [hm]; simp)]
    simp only
    rw [if_pos (by decide), hm]
    simp
  obtain ⟨l2, hl2⟩ := okW_happen h.reach.ok e
  exact ⟨doW_of h e, once_less h (reach_same h.reach hl2 rfl) rfl (fun q hq => by rw [hm]; exact List.mem_cons_of_mem _ hq)⟩
theorem new_right : S.checkHall S.Hall.new = 0 := by decide
theorem replay_rightF : ∀ {l : List S.Rec} {h w : S.Hall}, S.checkHall h = 0 → S.replayFrom h l = (w, 0) → S.checkHall w = 0
  | [], h, w, h0, e => by
    simp only [S.replayFrom, Prod.mk.injEq, and_true] at e
    rw [← e]; exact h0
  | r :: l, h, w, h0, e => by
    rw [S.replayFrom] at e
    by_cases g : (S.nextHall h r).2.2 ≠ 0
    · rw [if_pos g] at e; simp only [Prod.mk.injEq] at e; exact absurd e.2 g
    · rw [if_neg g] at e
      exact replay_rightF (next_of (Decidable.not_not.1 g)).2.ok e
theorem replay_right {l : List S.Rec} {w : S.Hall} (e : S.replayFrom S.Hall.new l = (w, 0)) : S.checkHall w = 0 := replay_rightF new_right e
theorem calm_asked {w : S.World} {l : List S.Rec} {n : Nat} {z : S.Hand} (h : Once w l) (hu : w.up = true) (hm : w.mail = []) (hn : n < 3) (hz : w.hand[n]? = some z) (hw : z.waits = true) (h80 : l.length < 80) :
    ∃ (l' : List S.Rec) (a : S.Answer), Once (S.asked w ⟨false, n, z.seq, z.c, S.Answer.zero⟩) l' ∧ l'.length ≤ l.length + 1 ∧ (S.asked w ⟨false, n, z.seq, z.c, S.Answer.zero⟩).mail = [⟨true, n, z.seq, S.Cmd.zero, a⟩] := by
  have z3 := h.reach.ok.hands z (List.mem_of_getElem? hz)
  obtain ⟨c1, c2, c3, c4, c5⟩ := checkHand_parts z3
  rw [if_pos hw] at c3
  obtain ⟨g1, g2, g3⟩ := h.got n z hz
  have hrep : S.replay l = (w.h, 0) := (h.reach.ok.up hu).2
  obtain ⟨y, y1, y2, y3⟩ := h.last w.h hrep n hn
  obtain ⟨l', q1⟩ := once_asked (m := ⟨false, n, z.seq, z.c, S.Answer.zero⟩) h hu (fun x hx => by
    simp only [Int.toNat_natCast] at hx
    rw [hz] at hx
    cases hx
    exact Int.le_refl _)
  obtain ⟨l2, q2, q3⟩ := asked_disk (m := ⟨false, n, z.seq, z.c, S.Answer.zero⟩) h.reach hu
  have hl : l' = l2 := textOf_inj q1.reach.ok.recs q2.ok.recs (by rw [← q1.reach.ok.safe, ← q2.ok.safe])
  have hlen : l'.length ≤ l.length + 1 := by
    rw [hl]
    rcases q3 with e | e <;> rw [e] <;> simp
  have hrec : S.checkRec ⟨n, z.seq, z.c⟩ = 0 := by
    unfold S.checkRec
    rw [if_neg (by simp only; omega)]
    exact c5 hw
  have hget : w.h.last.getD ((n : Int)).toNat S.Last.zero = y := by simp only [Int.toNat_natCast]; exact getD_of y1
  have hacc : (S.nextHall w.h ⟨n, z.seq, z.c⟩).2.2 = 0 := by
    have hh : S.checkHall w.h = 0 := by
      obtain ⟨h8, hf⟩ := S.replay_ok hrep
      exact replay_right hf
    unfold S.nextHall
    rw [if_neg (by simp [hh]), if_neg (by simp [hrec])]
    unfold S.nextedHall
    simp only
    rw [hget]
    by_cases e1 : z.seq = y.seq
    · rw [if_pos e1]
    · rw [if_neg e1, if_neg (by omega)]
  refine ⟨l', (S.nextHall w.h ⟨n, z.seq, z.c⟩).2.1, q1, hlen, ?_⟩
  unfold S.asked
  simp only
  rw [if_neg (by simp [hacc]), hget]
  by_cases g : y.seq < z.seq
  · rw [if_pos g]
    have hd := reach_disk h.reach
    obtain ⟨s1, s2⟩ := S.step_text h.reach.ok.recs hrec h80
    rw [hd, s1, if_neg (by simp)]
    simp only
    rw [s2, if_neg (by simp)]
    unfold S.post
    simp only
    rw [hm, if_pos (by simp)]
    rfl
  · rw [if_neg g]
    unfold S.post
    rw [hm, if_pos (by simp)]
    rfl
theorem once_same {w v : S.World} {l l' : List S.Rec} (h : Once w l) (h' : Once v l') (hd : v.d = w.d) : l' = l :=
  textOf_inj h'.reach.ok.recs h.reach.ok.recs (by rw [← h'.reach.ok.safe, ← h.reach.ok.safe, hd])
theorem calm_again {w : S.World} {l : List S.Rec} {n : Nat} {z : S.Hand} (h : Once w l) (hu : w.up = true) (hm : w.mail = []) (hn : n < 3) (hz : w.hand[n]? = some z) (hw : z.waits = true) (h80 : l.length < 80) :
    ∃ (w1 w2 w3 : S.World) (l' : List S.Rec), S.doWorld w ⟨2, n, 0, S.Cmd.zero⟩ = (w1, 0) ∧ w1.mail.length = 1 ∧ S.doWorld w1 ⟨3, 0, 0, S.Cmd.zero⟩ = (w2, 0) ∧ w2.mail.length = 1 ∧ S.doWorld w2 ⟨3, 0, 0, S.Cmd.zero⟩ = (w3, 0) ∧ w3.mail = [] ∧
      Once w3 l' ∧ l'.length ≤ l.length + 1 ∧ w3.up = true ∧ ∃ z' : S.Hand, z'.waits = false ∧ w3.hand = w.hand.set n z' := by
  have hgz : w.hand.getD ((n : Int)).toNat S.Hand.zero = z := by simp only [Int.toNat_natCast]; exact getD_of hz
  have e1 : S.happen w ⟨2, n, 0, S.Cmd.zero⟩ = ({ w with mail := [⟨false, n, z.seq, z.c, S.Answer.zero⟩] }, 0) := by
    unfold S.happen
    rw [if_neg (by simp), if_neg (by simp), if_neg (by simp), if_neg (by simp only [h.reach.ok.hand3]; omega)]
    simp only
    rw [hgz, if_neg (by decide), if_neg (by simp [hw])]
    unfold S.post
    rw [hm, if_pos (by simp)]
    rfl
  obtain ⟨l1, o1⟩ := once_happen h e1
  obtain ⟨l2, a, o2, hl2, hmail⟩ := calm_asked h hu hm hn hz hw h80
  obtain ⟨p1, p2, -, -⟩ := asked_parts w ⟨false, n, z.seq, z.c, S.Answer.zero⟩
  have e2 : S.happen { w with mail := [⟨false, n, z.seq, z.c, S.Answer.zero⟩] } ⟨3, 0, 0, S.Cmd.zero⟩ = (S.asked w ⟨false, n, z.seq, z.c, S.Answer.zero⟩, 0) := by
    have ew : ({ w with mail := [] } : S.World) = w := by rw [← hm]
    unfold S.happen
    rw [if_pos (by simp)]
    unfold S.hearMail
    rw [if_neg (by simp)]
    simp only [Int.toNat_zero, List.getD_cons_zero, List.eraseIdx_cons_zero]
    rw [if_pos (show ¬ ((3 : Int) = 4) by decide)]
    simp only
    rw [if_neg (by decide), if_neg (by simp), if_neg (by simp [hu]), ew]
  have hx := o2.reach.ok.mails _ (by rw [hmail]; exact List.mem_cons_self)
  have ha : S.checkAnswer a = 0 := by
    unfold S.checkMail at hx
    by_cases g : (n : Int) < 0 ∨ 3 ≤ (n : Int) ∨ z.seq < 1 ∨ 40 < z.seq
    · simp only at hx; rw [if_pos g] at hx; cases hx
    · simp only at hx
      rw [if_neg g, if_pos trivial, if_neg (by simp)] at hx
      exact hx
  have z3 := h.reach.ok.hands z (List.mem_of_getElem? hz)
  have hhear : S.hear z z.seq a = (⟨z.seq, false, S.Cmd.zero, z.got ++ [a]⟩, 0) := by
    unfold S.hear
    rw [if_neg (by simp [z3]), if_neg (by simp [ha]), if_pos ⟨hw, rfl⟩]
  have e3 : S.happen (S.asked w ⟨false, n, z.seq, z.c, S.Answer.zero⟩) ⟨3, 0, 0, S.Cmd.zero⟩ = ({ S.asked w ⟨false, n, z.seq, z.c, S.Answer.zero⟩ with mail := [], hand := w.hand.set n ⟨z.seq, false, S.Cmd.zero, z.got ++ [a]⟩ }, 0) := by
    generalize S.asked w ⟨false, n, z.seq, z.c, S.Answer.zero⟩ = v at *
    unfold S.happen
    rw [if_pos (by simp)]
    unfold S.hearMail
    rw [hmail, if_neg (by simp)]
    simp only [Int.toNat_zero, List.getD_cons_zero, List.eraseIdx_cons_zero]
    rw [if_pos (show ¬ ((3 : Int) = 4) by decide)]
    simp only
    rw [if_neg (by decide), if_pos trivial, p1, hgz, hhear, if_neg (by simp)]
    simp only [Int.toNat_natCast]
  obtain ⟨l3, o3⟩ := once_happen o2 e3
  have hl3 : l3 = l2 := once_same o2 o3 rfl
  exact ⟨_, _, _, l3, doW_of h e1, rfl, doW_of o1 e2, by rw [hmail]; rfl, doW_of o2 e3, rfl, o3, by rw [hl3]; exact hl2, p2.trans hu, _, rfl, rfl⟩
end Go.Proofs.YtginfkadmjikhaaGreatDoor.E
