
/- Dd: desks in plain data: what a command leaves. -/
import Derived.Test.YtallmebpmoaopaaGreatDoorDc
import Derived.Test.YtallmebpmoaopaaGreatDoorYk
import Derived.Test.YtallmebpmoaopaaGreatDoorL2
namespace Go.Proofs.YtallmebpmoaopaaGreatDoor.E
open Go.RowKit Go.Proofs
set_option maxRecDepth 100000
set_option maxHeartbeats 1000000
set_option linter.unusedSimpArgs false
set_option linter.unusedVariables false

theorem room_err (l : List S.Zone) (n : Nat) : (S.room l n).2 = 0 ∨ (S.room l n).2 = 7 := by
  unfold S.room
  simp only
  repeat' split
  all_goals simp
theorem readyZ_err {l : List S.Zone} (h : S.checkZones l = 0) (k : Int) : S.readyZ l k = if k < 0 ∨ 4 ≤ k then 5 else 0 := by
  unfold S.readyZ
  rw [if_neg (by simp [h])]
theorem writeZone_err {z : S.Zone} (h : S.checkZone z = 0) (d : List Int) : (S.writeZone z d).2 = 0 ∨ (S.writeZone z d).2 = 2 ∨ (S.writeZone z d).2 = 3 ∨ (S.writeZone z d).2 = 7 := by
  unfold S.writeZone
  rw [if_neg (by simp [h])]
  repeat' split
  all_goals simp

/-- an error, and nothing else -/
theorem checkAnswer_e {e : Int} (h : 0 ≤ e ∧ e ≤ 9) : S.checkAnswer ⟨e, 0, []⟩ = 0 := by
  unfold S.checkAnswer
  rw [if_neg (by simp; omega), if_neg (by simp), if_neg (by simp), if_neg (by simp)]
theorem checkAnswer_at {p : Int} (h : 0 ≤ p ∧ p < 8) : S.checkAnswer ⟨0, p, []⟩ = 0 := by
  unfold S.checkAnswer
  rw [if_neg (by simp; omega), if_neg (by simp), if_neg (by simp), if_neg (by simp)]
theorem checkAnswer_d {d : List Int} (h : d.length ≤ 8) (hb : d.any S.bad = false) : S.checkAnswer ⟨0, 0, d⟩ = 0 := by
  unfold S.checkAnswer
  rw [if_neg (by simp), if_neg (by simp; omega), if_neg (by simp [hb]), if_neg (by simp)]

theorem holdZ_err {zs : List S.Zone} (h : S.checkZones zs = 0) (k : Int) : 0 ≤ (S.holdZ zs k).2 ∧ (S.holdZ zs k).2 ≤ 9 := by
  have h1 := readyZ_err h k
  have h2 := room_err zs k.toNat
  unfold S.holdZ
  split
  · simp only [h1]; split <;> omega
  · split
    · simp only; omega
    · simp
theorem closeZ_err {zs : List S.Zone} (h : S.checkZones zs = 0) (k : Int) : 0 ≤ (S.closeZ zs k).2 ∧ (S.closeZ zs k).2 ≤ 9 := by
  have h1 := readyZ_err h k
  unfold S.closeZ
  split
  · simp only [h1]; split <;> omega
  · split <;> simp
theorem finishZ_err {zs : List S.Zone} (h : S.checkZones zs = 0) (k : Int) : 0 ≤ (S.finishZ zs k).2 ∧ (S.finishZ zs k).2 ≤ 9 := by
  have h1 := readyZ_err h k
  unfold S.finishZ
  split
  · simp only [h1]; split <;> omega
  · simp
theorem resetZ_err {zs : List S.Zone} (h : S.checkZones zs = 0) (k : Int) : 0 ≤ (S.resetZ zs k).2 ∧ (S.resetZ zs k).2 ≤ 9 := by
  have h1 := readyZ_err h k
  unfold S.resetZ
  split
  · simp only [h1]; split <;> omega
  · simp

theorem zone_in {zs : List S.Zone} (h : S.checkZones zs = 0) {k : Int} (hk : 0 ≤ k ∧ k < 4) : ∃ (n : Nat) (z : S.Zone), k = n ∧ n < 4 ∧ zs[n]? = some z ∧ S.checkZone z = 0 := by
  have h1 := (checkZones_parts h).1
  refine ⟨k.toNat, zs[k.toNat]'(by omega), by omega, by omega, by simp, (checkZones_parts h).2.1 _ (by simp)⟩

/-- a writing: an error, or where it stands -/
theorem writeZ_ans {zs : List S.Zone} (h : S.checkZones zs = 0) (k : Int) (d : List Int) : S.checkAnswer ⟨(S.writeZ zs k d).2.2, (S.writeZ zs k d).2.1, []⟩ = 0 := by
  have h1 := readyZ_err h k
  by_cases hk : k < 0 ∨ 4 ≤ k
  · rw [if_pos hk] at h1
    unfold S.writeZ
    rw [if_pos (by rw [h1]; decide), h1]
    exact checkAnswer_e (e := 5) (by omega)
  rw [if_neg hk] at h1
  obtain ⟨n, z, rfl, hn, hz, hzc⟩ := zone_in h (by omega : 0 ≤ k ∧ k < 4)
  have h2 := writeZone_err hzc d
  have h3 := room_err zs n
  have h4 := fun g => (write_ok (z := z) (l := d) g)
  unfold S.writeZ
  rw [if_neg (by omega)]
  simp only [Int.toNat_natCast, getD_of hz]
  split
  · exact checkAnswer_e (by simp only; omega)
  · rename_i g
    split
    · exact checkAnswer_e (by simp only; omega)
    · obtain ⟨-, -, -, w4, w5, -⟩ := h4 (by simpa using g)
      exact checkAnswer_at (p := (z.d.length : Int)) (by omega)

theorem readZone_ok {z : S.Zone} (h : S.checkZone z = 0) (a n : Int) : S.checkAnswer ⟨(S.readZone z a n).2, 0, (S.readZone z a n).1⟩ = 0 := by
  have hl := checkZone_len h
  have hb : z.d.any S.bad = false := by
    unfold S.checkZone at h
    split at h; · cases h
    split at h; · cases h
    split at h; · cases h
    rename_i g; simpa using g
  unfold S.readZone
  rw [if_neg (by simp [h])]
  split
  · exact checkAnswer_e (by omega)
  · split
    · exact checkAnswer_e (by omega)
    · refine checkAnswer_d (by simp; omega) ?_
      simp only [List.any_eq_false] at hb ⊢
      exact fun x hx => hb x (List.mem_of_mem_drop (List.mem_of_mem_take hx))

/-- what a command that was done left of zones -/
structure Left (zs : List S.Zone) (c : S.Cmd) (m : List S.Zone) (a : S.Answer) : Prop where
  ok : S.checkZones m = 0
  read : c.kind = 7 → m = zs
  zone : ∃ n : Nat, c.z = n ∧ n < 4
  kept : ∀ (i : Nat) (x y : S.Zone), zs[i]? = some x → m[i]? = some y → ((i : Int) = c.z ∧ c.kind = 4 → y.d = []) ∧ (¬ ((i : Int) = c.z ∧ c.kind = 4) → y.d.take x.d.length = x.d ∧ x.d.length ≤ y.d.length)
  wrote : c.kind = 5 ∨ c.kind = 6 → ∃ (n : Nat) (x y : S.Zone), c.z = n ∧ zs[n]? = some x ∧ m[n]? = some y ∧ y.d = x.d ++ c.d ∧ a.pos = x.d.length ∧ 1 ≤ c.d.length

theorem hold_zone {zs : List S.Zone} {k : Int} (h : (S.holdZ zs k).2 = 0) : S.readyZ zs k = 0 := by
  unfold S.holdZ at h
  split at h
  · rename_i g; exact absurd h g
  · rename_i g; simpa using g
theorem close_zone {zs : List S.Zone} {k : Int} (h : (S.closeZ zs k).2 = 0) : S.readyZ zs k = 0 := by
  unfold S.closeZ at h
  split at h
  · rename_i g; exact absurd h g
  · rename_i g; simpa using g
theorem finish_zone {zs : List S.Zone} {k : Int} (h : (S.finishZ zs k).2 = 0) : S.readyZ zs k = 0 := by
  unfold S.finishZ at h
  split at h
  · rename_i g; exact absurd h g
  · rename_i g; simpa using g
theorem reset_zone {zs : List S.Zone} {k : Int} (h : (S.resetZ zs k).2 = 0) : S.readyZ zs k = 0 := by
  unfold S.resetZ at h
  split at h
  · rename_i g; exact absurd h g
  · rename_i g; simpa using g
theorem write_zone {zs : List S.Zone} {k : Int} {d : List Int} (h : (S.writeZ zs k d).2.2 = 0) : S.readyZ zs k = 0 := by
  unfold S.writeZ at h
  split at h
  · rename_i g; exact absurd h g
  · rename_i g; simpa using g

theorem left_of {zs m : List S.Zone} {c : S.Cmd} {a : S.Answer} {q : Int} {n : Nat} (hc : S.checkZones zs = 0) (hz : c.z = n) (hn : n < 4) (hq : q = 0 ∨ q = 1 ∨ q = 2 ∨ q = 3 ∨ q = 4)
    (hq3 : q = 3 ↔ c.kind = 4) (h7 : c.kind ≠ 7) {d : List Int} (hm : (S.moveZ q zs n d).1 = m) (h : (S.moveZ q zs n d).2 = 0)
    (hw : c.kind = 5 ∨ c.kind = 6 → ∃ (n : Nat) (x y : S.Zone), c.z = n ∧ zs[n]? = some x ∧ m[n]? = some y ∧ y.d = x.d ++ c.d ∧ a.pos = x.d.length ∧ 1 ≤ c.d.length) : Left zs c m a := by
  obtain ⟨k1, k2, k3⟩ := move_kept hc hn hq h
  rw [hm] at k1 k2 k3
  refine ⟨k1, fun e => absurd e h7, ⟨n, hz, hn⟩, fun i x y hx hy => ?_, hw⟩
  obtain ⟨p1, p2⟩ := k3 i x y hx hy
  refine ⟨fun g => p1 ⟨by omega, hq3.2 g.2⟩, fun g => ?_⟩
  obtain ⟨r1, r2, -⟩ := p2 fun g2 => g ⟨by omega, hq3.1 g2.2⟩
  exact ⟨r1, r2⟩

theorem write_left {zs : List S.Zone} {k z n p : Int} {d : List Int} (h : S.checkZones zs = 0) (hk : k = 5 ∨ k = 6) (he : (S.writeZ zs z d).2.2 = 0) : Left zs ⟨k, z, n, p, d⟩ (S.writeZ zs z d).1 ⟨(S.writeZ zs z d).2.2, (S.writeZ zs z d).2.1, []⟩ := by
  have hr := write_zone he
  obtain ⟨-, j, x, rfl, hj, hx⟩ := ready_parts hr
  obtain ⟨k1, k2, k3, k4⟩ := writeZ_ok hx he
  obtain ⟨w1, w2, w3, w4, w5, w6, w7⟩ := write_ok k2
  refine left_of (q := 4) (n := j) (d := d) h rfl hj (by simp) (by simp only; omega) (by simp only; omega) rfl he fun _ => ?_
  refine ⟨j, x, (S.writeZone x d).1, rfl, hx, ?_, w3, ?_, w4⟩
  · rw [k4]
    obtain ⟨g1, g2⟩ := room_get hx
    exact get_set_self g1
  · rw [k4]

theorem deskZones_ok {zs : List S.Zone} {c : S.Cmd} (h : S.checkZones zs = 0) (hc : S.checkCmd c = 0) (hk : c.kind ≤ 7) :
    S.checkAnswer (S.deskZones zs c).2 = 0 ∧ ((S.deskZones zs c).2.e = 0 → Left zs c (S.deskZones zs c).1 (S.deskZones zs c).2) := by
  obtain ⟨f1, f2, f3, -⟩ := cmd_facts hc
  have hl := (checkZones_parts h).1
  obtain ⟨k, z, n, p, d⟩ := c
  simp only at f1 f2 f3 hk
  rcases (by omega : k = 1 ∨ k = 2 ∨ k = 3 ∨ k = 4 ∨ k = 5 ∨ k = 6 ∨ k = 7) with rfl | rfl | rfl | rfl | rfl | rfl | rfl
  · have e : S.deskZones zs ⟨1, z, n, p, d⟩ = ((S.holdZ zs z).1, ⟨(S.holdZ zs z).2, 0, []⟩) := by simp [S.deskZones]
    rw [e]
    refine ⟨checkAnswer_e (holdZ_err h z), fun he => ?_⟩
    obtain ⟨-, j, x, rfl, hj, hx⟩ := ready_parts (hold_zone he)
    exact left_of (q := 0) (n := j) (d := d) h rfl hj (by simp) (by simp) (by simp) rfl he (by simp)
  · have e : S.deskZones zs ⟨2, z, n, p, d⟩ = ((S.closeZ zs z).1, ⟨(S.closeZ zs z).2, 0, []⟩) := by simp [S.deskZones]
    rw [e]
    refine ⟨checkAnswer_e (closeZ_err h z), fun he => ?_⟩
    obtain ⟨-, j, x, rfl, hj, hx⟩ := ready_parts (close_zone he)
    exact left_of (q := 1) (n := j) (d := d) h rfl hj (by simp) (by simp) (by simp) rfl he (by simp)
  · have e : S.deskZones zs ⟨3, z, n, p, d⟩ = ((S.finishZ zs z).1, ⟨(S.finishZ zs z).2, 0, []⟩) := by simp [S.deskZones]
    rw [e]
    refine ⟨checkAnswer_e (finishZ_err h z), fun he => ?_⟩
    obtain ⟨-, j, x, rfl, hj, hx⟩ := ready_parts (finish_zone he)
    exact left_of (q := 2) (n := j) (d := d) h rfl hj (by simp) (by simp) (by simp) rfl he (by simp)
  · have e : S.deskZones zs ⟨4, z, n, p, d⟩ = ((S.resetZ zs z).1, ⟨(S.resetZ zs z).2, 0, []⟩) := by simp [S.deskZones]
    rw [e]
    refine ⟨checkAnswer_e (resetZ_err h z), fun he => ?_⟩
    obtain ⟨-, j, x, rfl, hj, hx⟩ := ready_parts (reset_zone he)
    exact left_of (q := 3) (n := j) (d := d) h rfl hj (by simp) (by simp) (by simp) rfl he (by simp)
  · have e : S.deskZones zs ⟨5, z, n, p, d⟩ = ((S.writeZ zs z d).1, ⟨(S.writeZ zs z d).2.2, (S.writeZ zs z d).2.1, []⟩) := by simp [S.deskZones]
    rw [e]
    exact ⟨writeZ_ans h z d, fun he => write_left h (.inl rfl) he⟩
  · by_cases g : z < zs.length ∧ p ≠ (zs.getD z.toNat S.Zone.zero).d.length
    · have e : S.deskZones zs ⟨6, z, n, p, d⟩ = ([], ⟨6, 0, []⟩) := by
        unfold S.deskZones
        rw [if_neg (by simp), if_neg (by simp), if_neg (by simp), if_neg (by simp), if_pos ⟨rfl, g⟩]
      rw [e]
      exact ⟨checkAnswer_e (by omega), fun he => by cases he⟩
    · have e : S.deskZones zs ⟨6, z, n, p, d⟩ = ((S.writeZ zs z d).1, ⟨(S.writeZ zs z d).2.2, (S.writeZ zs z d).2.1, []⟩) := by
        unfold S.deskZones
        rw [if_neg (by simp), if_neg (by simp), if_neg (by simp), if_neg (by simp), if_neg (fun q => g q.2), if_pos (by simp)]
      rw [e]
      exact ⟨writeZ_ans h z d, fun he => write_left h (.inr rfl) he⟩
  · by_cases g : (zs.length : Int) ≤ z
    · have e : S.deskZones zs ⟨7, z, n, p, d⟩ = ([], ⟨5, 0, []⟩) := by
        unfold S.deskZones
        rw [if_neg (by simp), if_neg (by simp), if_neg (by simp), if_neg (by simp), if_neg (by simp), if_neg (by simp), if_pos g]
      rw [e]
      exact ⟨checkAnswer_e (by omega), fun he => by cases he⟩
    · have e : S.deskZones zs ⟨7, z, n, p, d⟩ = (zs, ⟨(S.readZone (zs.getD z.toNat S.Zone.zero) p n).2, 0, (S.readZone (zs.getD z.toNat S.Zone.zero) p n).1⟩) := by
        unfold S.deskZones
        rw [if_neg (by simp), if_neg (by simp), if_neg (by simp), if_neg (by simp), if_neg (by simp), if_neg (by simp), if_neg g]
      rw [e]
      obtain ⟨j, x, rfl, hj, hx, hxc⟩ := zone_in h (k := z) (by omega)
      refine ⟨?_, fun he => ⟨h, fun _ => rfl, ⟨j, rfl, hj⟩, fun i x y hx hy => ?_, by simp⟩⟩
      · simp only [Int.toNat_natCast, getD_of hx]
        exact readZone_ok hxc _ _
      · simp only at hy
        rw [hx] at hy
        cases hy
        simp

theorem onBook_move {b : S.Book} {k who n : Int} (hk : 8 ≤ k ∧ k ≤ 12) : S.onBook b k who n = S.move (k - 8) b who n := by
  rcases (by omega : k = 8 ∨ k = 9 ∨ k = 10 ∨ k = 11 ∨ k = 12) with rfl | rfl | rfl | rfl | rfl <;> simp [S.onBook, S.move]
theorem ready_who {b : S.Book} (h : S.checkBook b = 0) {who : Int} (hw : 0 ≤ who ∧ who < 3) : S.ready b who = 0 := by
  unfold S.ready
  rw [if_neg (by simp [h]), if_neg (by omega)]
theorem onBook_err {b : S.Book} (h : S.checkBook b = 0) {k who n : Int} (hw : 0 ≤ who ∧ who < 3) : 0 ≤ (S.onBook b k who n).2 ∧ (S.onBook b k who n).2 ≤ 9 := by
  have hr := ready_who h hw
  unfold S.onBook S.register S.reserve S.release S.preempt S.clear
  simp only [hr, ne_eq, not_true_eq_false, if_false]
  repeat' split
  all_goals simp

/-- what a right command of a right hand leaves of a right desk -/
structure Did (d : S.Desk) (who : Int) (c : S.Cmd) (m : S.Desk) (a : S.Answer) : Prop where
  ok : S.checkDesk m = 0
  ans : S.checkAnswer a = 0
  same : a.e ≠ 0 → m = d
  might : S.might d.b who true = false → m.zs = d.zs
  book : c.kind ≤ 7 → m.b = d.b
  left : a.e = 0 → c.kind ≤ 7 → Left d.zs c m.zs a
  zones : 8 ≤ c.kind → m.zs = d.zs ∧ a.pos = 0 ∧ a.d = []

theorem checkDesk_of {zs : List S.Zone} {b : S.Book} (h1 : S.checkZones zs = 0) (h2 : S.checkBook b = 0) : S.checkDesk ⟨zs, b⟩ = 0 := by
  unfold S.checkDesk
  rw [if_neg (by simp [h1])]
  exact h2

theorem done_did {d : S.Desk} {who : Int} {c : S.Cmd} (h : Pre d who c) : Did d who c (S.doneDesk d who c).1 (S.doneDesk d who c).2 := by
  obtain ⟨sm, hz, hb⟩ := small_of h.d0
  obtain ⟨f1, f2, f3, -⟩ := cmd_facts h.c0
  have h0 := h.d0
  have hw : 0 ≤ who ∧ who < 3 := ⟨h.w0, h.w1⟩
  obtain ⟨zs, b⟩ := d
  simp only at hz hb
  unfold S.doneDesk
  by_cases hk : 8 ≤ c.kind
  · simp only [if_pos hk]
    have e1 := onBook_err hb (k := c.kind) (n := c.n) hw
    have e2 := onBook_move (b := b) (who := who) (n := c.n) ⟨hk, f2⟩
    have e3 := fun g => (move_good hb (w := who) (by omega) (n := c.n) (q := c.kind - 8) g).1
    rw [← e2] at e3
    generalize S.onBook b c.kind who c.n = r at *
    obtain ⟨b', e⟩ := r
    simp only at e1 e3 ⊢
    refine ⟨?_, checkAnswer_e e1, fun g => ?_, fun _ => ?_, fun g => by omega, fun _ g => by omega, fun _ => ⟨?_, rfl, rfl⟩⟩
    · split
      · rename_i g; exact checkDesk_of hz (e3 g)
      · exact h0
    · rw [if_neg g]
    · split <;> rfl
    · split <;> rfl
  · simp only [if_neg hk]
    by_cases hm : S.might b who (!decide (c.kind = 7)) = false
    · simp only [if_pos hm]
      exact ⟨h0, checkAnswer_e (by omega), fun _ => rfl, fun _ => rfl, fun _ => rfl, fun g => by simp at g, fun g => by omega⟩
    · simp only [if_neg hm]
      obtain ⟨a1, a2⟩ := deskZones_ok hz h.c0 (by omega)
      generalize S.deskZones zs c = r at *
      obtain ⟨m, a⟩ := r
      simp only at a1 a2 ⊢
      refine ⟨?_, a1, fun g => by rw [if_neg g], fun hm2 => ?_, fun _ => by split <;> rfl, fun g g2 => by rw [if_pos g]; exact a2 g, fun g => by omega⟩
      · split
        · rename_i g; exact checkDesk_of (a2 g).ok hb
        · exact h0
      · split
        · rename_i g
          by_cases h7 : c.kind = 7
          · exact (a2 g).read h7
          · simp [h7, hm2] at hm
        · rfl

theorem do_ok {d : S.Desk} {who : Int} {c : S.Cmd} (h : (S.doDesk d who c).2.2 = 0) : Pre d who c ∧ S.doDesk d who c = ((S.doneDesk d who c).1, (S.doneDesk d who c).2, 0) := by
  unfold S.doDesk at h ⊢
  by_cases h1 : S.checkDesk d = 0
  · rw [if_neg (by simp [h1])] at h ⊢
    by_cases h2 : who < 0 ∨ 3 ≤ who
    · rw [if_pos h2] at h; cases h
    · rw [if_neg h2] at h ⊢
      by_cases h3 : S.checkCmd c = 0
      · rw [if_neg (by simp [h3])]
        exact ⟨⟨h1, by omega, by omega, h3⟩, rfl⟩
      · rw [if_pos h3] at h; exact absurd h h3
  · rw [if_pos h1] at h; exact absurd h h1
theorem do_of {d : S.Desk} {who : Int} {c : S.Cmd} (h : Pre d who c) : S.doDesk d who c = ((S.doneDesk d who c).1, (S.doneDesk d who c).2, 0) := by
  have q1 := h.d0
  have q2 := h.w0
  have q3 := h.w1
  have q4 := h.c0
  unfold S.doDesk
  rw [if_neg (by simp [q1]), if_neg (by omega), if_neg (by simp [q4])]

end Go.Proofs.YtallmebpmoaopaaGreatDoor.E
