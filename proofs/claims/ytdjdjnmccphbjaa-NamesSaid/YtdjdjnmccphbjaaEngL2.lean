/- EngL2: a region whose order is open does what it does in the order of its text. -/
import Derived.Test.YtdjdjnmccphbjaaEngL
namespace Go.Proofs.Ytdjdjnmccphbjaa.E
open Go.RowKit

section
variable {P : Program}

/-- of a region, so many operations, in the order of the text -/
def runI (P : Program) (ops : Array Oper) (base : Nat) : List Nat → (St → Prop) → St → Prop
  | [], Q, st => Q st
  | k :: ks, Q, st => match ops[k]? with
    | none => runI P ops base ks Q st
    | some o => if wantA ops o st.t = true then stepA P true (base + 4 * k) o.dst o.op (runI P ops base ks Q) ⟨⟩ ⟨⟩ st else runI P ops base ks Q (St.put ⟨st.t, st.h, st.n⟩ o.dst .und)

theorem runR_runI {ops : Array Oper} {base : Nat} {Q : St → Prop} : ∀ (os : List Oper) (k : Nat) (st : St), ops.toList.drop k = os → runR P true ops base os k Q st → runI P ops base (List.range' k os.length) Q st
  | [], k, st, _, h => h
  | o :: os, k, st, hd, h => by
    have ho : ops[k]? = some o := by
      have : (ops.toList.drop k)[0]? = some o := by rw [hd]; rfl
      rw [List.getElem?_drop] at this
      simpa using this
    have hd' : ops.toList.drop (k + 1) = os := by
      rw [← List.drop_drop, hd]; rfl
    simp only [List.length_cons, List.range'_succ, runI, ho]
    simp only [runR] at h
    unfold brA at h
    split
    · rename_i hw
      rw [if_pos hw] at h
      obtain ⟨h', r, he, hk⟩ := step_ef h
      exact ef_step he (runR_runI os (k + 1) _ hd' hk)
    · rename_i hw
      rw [if_neg hw] at h
      exact runR_runI os (k + 1) _ hd' h

theorem Ef.congr {t t' : Nat → AV} {h h' : Heap} {id : Nat} {op : Op} {r : AV} (he : ∀ x, x ∈ op.operands → evA t x = evA t' x) (hr : Ef P id op t h h' r) : Ef P id op t' h h' r := by
  unfold Ef at hr ⊢
  split
  · rename_i hs
    rw [if_pos hs] at hr
    split at hr
    · rename_i ty x y
      rw [he x (by simp [Op.operands]), he y (by simp [Op.operands])] at hr
      exact hr
    · rename_i args tys
      obtain ⟨x, y, ty, h1, h2, h3⟩ := hr
      have hx : x ∈ args.toList := by rw [h1]; simp
      have hy : y ∈ args.toList := by rw [h1]; simp
      rw [he x (by simp only [Op.operands, Call.operands]; simpa using hx), he y (by simp only [Op.operands, Call.operands]; simpa using hy)] at h3
      exact ⟨x, y, ty, h1, h2, h3⟩
    · exact hr.elim
  · rename_i hs
    rw [if_neg hs] at hr
    obtain ⟨news, h1, h2, h3⟩ := hr
    exact ⟨news, h1.congr he, h2, h3⟩

/-- two frames that are alike in what an operation looks at -/
def Alike (ops : Array Oper) (o : Oper) (t t' : Nat → AV) : Prop := ∀ d, d ∈ o.looksAt ops → t' d = t d
theorem Alike.ev {ops : Array Oper} {o : Oper} {t t' : Nat → AV} (h : Alike ops o t t') {x : Operand} (hx : x ∈ o.op.operands) : evA t x = evA t' x := by
  cases x with
  | tmp k => exact (h k (by unfold Oper.looksAt; exact List.mem_append_left _ (List.mem_filterMap.2 ⟨.tmp k, by simpa using hx, rfl⟩))).symm
  | _ => rfl
theorem Alike.want {ops : Array Oper} {o : Oper} {t t' : Nat → AV} (h : Alike ops o t t') : wantA ops o t' = wantA ops o t := by
  unfold wantA
  split
  · rfl
  · rename_i j b hg
    split
    · rename_i d hd
      rw [h d (by unfold Oper.looksAt; refine List.mem_append_right _ ?_; rw [hg]; simp [hd])]
    · rfl
theorem Alike.refl (ops : Array Oper) (o : Oper) (t : Nat → AV) : Alike ops o t t := fun _ _ => rfl
theorem Alike.trans {ops : Array Oper} {o : Oper} {a b c : Nat → AV} (h : Alike ops o a b) (g : Alike ops o b c) : Alike ops o a c := fun d hd => (g d hd).trans (h d hd)
theorem Alike.put {ops : Array Oper} {o : Oper} {st : St} {h' : Heap} {n' : Nat} {d : Option Tmp} {r : AV} (hd : ∀ k, d = some k → k ∉ o.looksAt ops) : Alike ops o st.t (St.put ⟨st.t, h', n'⟩ d r).t := by
  intro k hk
  cases d with
  | none => rfl
  | some d =>
    show upd st.t d r k = st.t k
    exact upd_ne _ _ (by intro e; subst e; exact hd k rfl hk)

theorem put_comm {t : Nat → AV} {h : Heap} {n : Nat} {d e : Option Tmp} {r q : AV} (hne : ∀ k, d = some k → e ≠ some k) :
    St.put ⟨(St.put ⟨t, h, n⟩ d r).t, h, n⟩ e q = St.put ⟨(St.put ⟨t, h, n⟩ e q).t, h, n⟩ d r := by
  cases d with
  | none => cases e <;> rfl
  | some d =>
    cases e with
    | none => rfl
    | some e =>
      have hde : d ≠ e := fun x => hne d rfl (by rw [x])
      show (⟨upd (upd t d r) e q, h, n⟩ : St) = ⟨upd (upd t e q) d r, h, n⟩
      congr 1
      funext x
      simp only [upd]
      by_cases h1 : x = e
      · subst h1; simp [Ne.symm hde]
      · simp [h1]
theorem put_t {t : Nat → AV} {h h' : Heap} {n n' : Nat} {d : Option Tmp} {r : AV} : (St.put ⟨t, h, n⟩ d r).t = (St.put ⟨t, h', n'⟩ d r).t := by cases d <;> rfl
@[simp] theorem put_h {t : Nat → AV} {h : Heap} {n : Nat} {d : Option Tmp} {r : AV} : (St.put ⟨t, h, n⟩ d r).h = h := by cases d <;> rfl
@[simp] theorem put_n {t : Nat → AV} {h : Heap} {n : Nat} {d : Option Tmp} {r : AV} : (St.put ⟨t, h, n⟩ d r).n = n := by cases d <;> rfl

theorem updL_comm {h : Heap} {x y : Nat} {a b : List HE} (ha : a.length ≤ 4) (hb : b.length ≤ 4) (hd : x + 4 ≤ y ∨ y + 4 ≤ x) : updL (updL h x a) y b = updL (updL h y b) x a := by
  funext i
  simp only [updL_get]
  split <;> split <;> first | rfl | omega
theorem updL_le {h : Heap} {x : Nat} {a : List HE} (ha : a.length ≤ 4) (hn : ∀ j, j < 4 → h (x + j) = none) : HLe h (updL h x a) := by
  intro i e he
  rw [updL_get]
  split
  · rename_i hc
    have := hn (i - x) (by omega)
    rw [show x + (i - x) = i by omega] at this
    rw [this] at he; cases he
  · exact he

/-- what two operations owe each other, the first ahead of the second in the text -/
structure Free (ops : Array Oper) (y x : Nat) (oy ox : Oper) : Prop where
  gy : ops[y]? = some oy
  ne : y ≠ x
  ap : oy.apart ops ox = true

theorem Free.d1 {ops : Array Oper} {y x : Nat} {oy ox : Oper} (f : Free ops y x oy ox) : ∀ k, oy.dst = some k → k ∉ ox.looksAt ops := fun k hk => (Oper.apart_spec f.ap).1 k hk
theorem Free.d2 {ops : Array Oper} {y x : Nat} {oy ox : Oper} (f : Free ops y x oy ox) : ∀ k, ox.dst = some k → k ∉ oy.looksAt ops := fun k hk => (Oper.apart_spec f.ap).2.2 k hk
theorem Free.d3 {ops : Array Oper} {y x : Nat} {oy ox : Oper} (f : Free ops y x oy ox) : ∀ k, ox.dst = some k → oy.dst ≠ some k := fun k hk h => (Oper.apart_spec f.ap).2.1 k h hk

/-- one operation more, ahead of which x was moved -/
theorem cons_one {ops : Array Oper} {base y x : Nat} {oy ox : Oper} {Q : St → Prop} {ks : List Nat} (f : Free ops y x oy ox) {s : St} {hx : Heap} {rx : AV}
    (hw : wantA ops oy s.t = true) {h1 h2 : Heap} {r1 : AV} (he : Ef P (base + 4 * y) oy.op s.t hx h2 r1) (hk : runI P ops base ks Q (St.put ⟨(St.put ⟨s.t, h1, s.n⟩ oy.dst r1).t, h2, s.n⟩ ox.dst rx)) :
    runI P ops base (y :: ks) Q (St.put ⟨s.t, hx, s.n⟩ ox.dst rx) := by
  have ha : Alike ops oy s.t (St.put ⟨s.t, hx, s.n⟩ ox.dst rx).t := Alike.put f.d2
  simp only [runI, f.gy]
  rw [ha.want, if_pos hw]
  refine ef_step (h' := h2) (r := r1) ?_ ?_
  · rw [put_h]
    exact he.congr fun o ho => ha.ev ho
  · have e : St.put ⟨(St.put ⟨s.t, hx, s.n⟩ ox.dst rx).t, h2, (St.put ⟨s.t, hx, s.n⟩ ox.dst rx).n⟩ oy.dst r1 = St.put ⟨(St.put ⟨s.t, h1, s.n⟩ oy.dst r1).t, h2, s.n⟩ ox.dst rx := by
      rw [put_n, put_t (h := hx) (h' := h2) (n := s.n) (n' := s.n), put_t (h := h1) (h' := h2) (n := s.n) (n' := s.n)]
      exact put_comm f.d3
    rw [e]; exact hk
theorem cons_skip {ops : Array Oper} {base y x : Nat} {oy ox : Oper} {Q : St → Prop} {ks : List Nat} (f : Free ops y x oy ox) {s : St} {hx : Heap} {rx : AV}
    (hw : ¬ wantA ops oy s.t = true) {h1 : Heap} (hk : runI P ops base ks Q (St.put ⟨(St.put ⟨s.t, h1, s.n⟩ oy.dst .und).t, hx, s.n⟩ ox.dst rx)) :
    runI P ops base (y :: ks) Q (St.put ⟨s.t, hx, s.n⟩ ox.dst rx) := by
  have ha : Alike ops oy s.t (St.put ⟨s.t, hx, s.n⟩ ox.dst rx).t := Alike.put f.d2
  simp only [runI, f.gy]
  rw [ha.want, if_neg hw]
  have e : St.put ⟨(St.put ⟨s.t, hx, s.n⟩ ox.dst rx).t, (St.put ⟨s.t, hx, s.n⟩ ox.dst rx).h, (St.put ⟨s.t, hx, s.n⟩ ox.dst rx).n⟩ oy.dst .und = St.put ⟨(St.put ⟨s.t, h1, s.n⟩ oy.dst .und).t, hx, s.n⟩ ox.dst rx := by
    rw [put_n, put_h, put_t (h := h1) (h' := hx) (n := s.n) (n' := s.n)]
    exact put_comm f.d3
  rw [e]; exact hk

/-- L0: x does not lean on memory, or does not run -/
theorem front0 {ops : Array Oper} {base x : Nat} {ox : Oper} (gx : ops[x]? = some ox) {Q : St → Prop} {post : List Nat} :
    ∀ (pre : List Nat) (s : St), (∀ y, y ∈ pre → ∃ oy, Free ops y x oy ox) → (wantA ops ox s.t = true → sort ox.op = 0) → runI P ops base (pre ++ x :: post) Q s →
      ∃ rx t', Alike ops ox s.t t' ∧ (wantA ops ox s.t = true → ∃ h', Rd P (base + 4 * x) ox.op t' h' rx []) ∧ (¬ wantA ops ox s.t = true → rx = .und) ∧ runI P ops base (pre ++ post) Q (St.put ⟨s.t, s.h, s.n⟩ ox.dst rx)
  | [], s, _, hs, h => by
    simp only [List.nil_append, runI, gx] at h
    split at h
    · rename_i hw
      obtain ⟨h', r, he, hk⟩ := step_ef h
      unfold Ef at he
      rw [if_neg (by rw [hs hw]; simp)] at he
      obtain ⟨news, h1, h2, rfl⟩ := he
      obtain ⟨-, rfl⟩ := h1.free (h2 := s.h) (hs hw)
      exact ⟨r, s.t, Alike.refl _ _ _, fun _ => ⟨_, h1⟩, fun hn => absurd hw hn, hk⟩
    · rename_i hw
      exact ⟨.und, s.t, Alike.refl _ _ _, fun h => absurd h hw, fun _ => rfl, h⟩
  | y :: pre, s, hf, hs, h => by
    obtain ⟨oy, f⟩ := hf y (by simp)
    simp only [List.cons_append, runI, f.gy] at h ⊢
    split at h
    · rename_i hw
      obtain ⟨h1, r1, he, hk⟩ := step_ef h
      have ha : Alike ops ox s.t (St.put ⟨s.t, h1, s.n⟩ oy.dst r1).t := Alike.put f.d1
      obtain ⟨rx, t', g1, g2, g3, g4⟩ := front0 gx pre _ (fun y hy => hf y (by simp [hy])) (by rw [ha.want]; exact hs) hk
      rw [ha.want] at g2 g3
      refine ⟨rx, t', ha.trans g1, g2, g3, ?_⟩
      have := cons_one (P := P) (base := base) f (hx := s.h) hw (h1 := h1) (h2 := h1) he (by simpa only [put_h, put_n] using g4)
      simpa only [runI, f.gy] using this
    · rename_i hw
      have ha : Alike ops ox s.t (St.put ⟨s.t, s.h, s.n⟩ oy.dst .und).t := Alike.put f.d1
      obtain ⟨rx, t', g1, g2, g3, g4⟩ := front0 gx pre _ (fun y hy => hf y (by simp [hy])) (by rw [ha.want]; exact hs) h
      rw [ha.want] at g2 g3
      refine ⟨rx, t', ha.trans g1, g2, g3, ?_⟩
      have := cons_skip (P := P) (base := base) f (hx := s.h) (h1 := s.h) hw (by simpa only [put_h, put_n] using g4)
      simpa only [runI, f.gy] using this

/-- L1: x reads, or makes, or calls; what stands ahead does not write -/
theorem front1 {ops : Array Oper} {base x : Nat} {ox : Oper} (gx : ops[x]? = some ox) (hsx : sort ox.op = 1) {Q : St → Prop} {post : List Nat} :
    ∀ (pre : List Nat) (s : St), (∀ y, y ∈ pre → ∃ oy, Free ops y x oy ox ∧ sort oy.op ≠ 2) → wantA ops ox s.t = true → (∀ j, j < 4 → s.h (base + 4 * x + j) = none) → runI P ops base (pre ++ x :: post) Q s →
      ∃ rx nx t' h', Alike ops ox s.t t' ∧ (∀ i, (∀ y, y ∈ pre → ¬ (base + 4 * y ≤ i ∧ i < base + 4 * y + 4)) → h' i = s.h i) ∧ Rd P (base + 4 * x) ox.op t' h' rx nx ∧ nx.length ≤ 4 ∧ runI P ops base (pre ++ post) Q (St.put ⟨s.t, updL s.h (base + 4 * x) nx, s.n⟩ ox.dst rx)
  | [], s, _, hw, _, h => by
    simp only [List.nil_append, runI, gx] at h
    rw [if_pos hw] at h
    obtain ⟨h', r, he, hk⟩ := step_ef h
    unfold Ef at he
    rw [if_neg (by rw [hsx]; simp)] at he
    obtain ⟨news, h1, h2, rfl⟩ := he
    exact ⟨r, news, s.t, s.h, Alike.refl _ _ _, fun _ _ => rfl, h1, h2, hk⟩
  | y :: pre, s, hf, hwx, hn, h => by
    obtain ⟨oy, f, hsy⟩ := hf y (by simp)
    simp only [List.cons_append, runI, f.gy] at h ⊢
    split at h
    · rename_i hw
      obtain ⟨h1, r1, he, hk⟩ := step_ef h
      have ha : Alike ops ox s.t (St.put ⟨s.t, h1, s.n⟩ oy.dst r1).t := Alike.put f.d1
      unfold Ef at he
      rw [if_neg hsy] at he
      obtain ⟨ny, k1, k2, rfl⟩ := he
      have hdis : base + 4 * x + 4 ≤ base + 4 * y ∨ base + 4 * y + 4 ≤ base + 4 * x := by have := f.ne; omega
      obtain ⟨rx, nx, t', h', g1, g2, g3, g4, g5⟩ := front1 gx hsx pre _ (fun y hy => hf y (by simp [hy])) (by rw [ha.want]; exact hwx) (fun j hj => by
        rw [put_h, updL_get, if_neg (by omega)]; exact hn j hj) hk
      refine ⟨rx, nx, t', h', ha.trans g1, fun i hi => ?_, g3, g4, ?_⟩
      · rw [g2 i (fun z hz => hi z (by simp [hz])), put_h, updL_get, if_neg]
        have := hi y (by simp)
        omega
      · have hle := updL_le (h := s.h) g4 hn
        have he2 : Ef P (base + 4 * y) oy.op s.t (updL s.h (base + 4 * x) nx) (updL (updL s.h (base + 4 * x) nx) (base + 4 * y) ny) r1 := by
          unfold Ef
          rw [if_neg hsy]
          exact ⟨ny, k1.mono hle hsy, k2, rfl⟩
        have := cons_one (P := P) (base := base) f hw (h1 := updL s.h (base + 4 * y) ny) he2 (by
          rw [updL_comm g4 k2 hdis]
          simpa only [put_h, put_n] using g5)
        simpa only [runI, f.gy] using this
    · rename_i hw
      have ha : Alike ops ox s.t (St.put ⟨s.t, s.h, s.n⟩ oy.dst .und).t := Alike.put f.d1
      obtain ⟨rx, nx, t', h', g1, g2, g3, g4, g5⟩ := front1 gx hsx pre _ (fun y hy => hf y (by simp [hy])) (by rw [ha.want]; exact hwx) (fun j hj => by rw [put_h]; exact hn j hj) h
      refine ⟨rx, nx, t', h', ha.trans g1, fun i hi => ?_, g3, g4, ?_⟩
      · rw [g2 i (fun z hz => hi z (by simp [hz])), put_h]
      · have := cons_skip (P := P) (base := base) f (hx := updL s.h (base + 4 * x) nx) (h1 := s.h) hw (by simpa only [put_h, put_n] using g5)
        simpa only [runI, f.gy] using this

/-- L2: x writes; what stands ahead does not lean on memory -/
theorem front2 {ops : Array Oper} {base x : Nat} {ox : Oper} (gx : ops[x]? = some ox) {Q : St → Prop} {post : List Nat} :
    ∀ (pre : List Nat) (s : St), (∀ y, y ∈ pre → ∃ oy, Free ops y x oy ox ∧ sort oy.op = 0) → wantA ops ox s.t = true → runI P ops base (pre ++ x :: post) Q s →
      ∃ rx t' h', Alike ops ox s.t t' ∧ Ef P (base + 4 * x) ox.op t' s.h h' rx ∧ runI P ops base (pre ++ post) Q (St.put ⟨s.t, h', s.n⟩ ox.dst rx)
  | [], s, _, hw, h => by
    simp only [List.nil_append, runI, gx] at h
    rw [if_pos hw] at h
    obtain ⟨h', r, he, hk⟩ := step_ef h
    exact ⟨r, s.t, h', Alike.refl _ _ _, he, hk⟩
  | y :: pre, s, hf, hwx, h => by
    obtain ⟨oy, f, hsy⟩ := hf y (by simp)
    have hsy2 : sort oy.op ≠ 2 := by rw [hsy]; simp
    simp only [List.cons_append, runI, f.gy] at h ⊢
    split at h
    · rename_i hw
      obtain ⟨h1, r1, he, hk⟩ := step_ef h
      unfold Ef at he
      rw [if_neg hsy2] at he
      obtain ⟨ny, k1, k2, rfl⟩ := he
      obtain ⟨-, rfl⟩ := k1.free (h2 := s.h) hsy
      have ha : Alike ops ox s.t (St.put ⟨s.t, s.h, s.n⟩ oy.dst r1).t := Alike.put f.d1
      obtain ⟨rx, t', h', g1, g2, g3⟩ := front2 gx pre _ (fun y hy => hf y (by simp [hy])) (by rw [put_t (h' := s.h) (n' := s.n), ha.want]; exact hwx) hk
      rw [put_h] at g2
      have g1' : Alike ops ox s.t t' := ha.trans (by rw [put_t (h' := s.h) (n' := s.n)] at g1; exact g1)
      refine ⟨rx, t', h', g1', g2, ?_⟩
      have he2 : Ef P (base + 4 * y) oy.op s.t h' h' r1 := by
        unfold Ef
        rw [if_neg hsy2]
        exact ⟨[], (k1.free hsy).1, by simp, rfl⟩
      have := cons_one (P := P) (base := base) f hw (h1 := s.h) he2 (by simpa only [put_h, put_n, updL] using g3)
      simpa only [runI, f.gy] using this
    · rename_i hw
      have ha : Alike ops ox s.t (St.put ⟨s.t, s.h, s.n⟩ oy.dst .und).t := Alike.put f.d1
      obtain ⟨rx, t', h', g1, g2, g3⟩ := front2 gx pre _ (fun y hy => hf y (by simp [hy])) (by rw [ha.want]; exact hwx) h
      rw [put_h] at g2
      refine ⟨rx, t', h', ha.trans g1, g2, ?_⟩
      have := cons_skip (P := P) (base := base) f (hx := h') (h1 := s.h) hw (by simpa only [put_h, put_n, updL] using g3)
      simpa only [runI, f.gy] using this

/-- what each operation stands behind, near or far -/
def closA (ops : Array Oper) : Array (List Nat) :=
  ops.toList.foldl (fun acc o => acc.push ((o.after.toList.foldl (fun s e => if Region.binds .any e then (e.on :: acc.getD e.on []) ++ s else s) []).eraseDups)) #[]
def pairOk (a b : Nat) : Bool := a == 0 || b == 0 || (a == 1 && b == 1)
/-- what is looked at in the text of a region whose order is open -/
def drawOk (ops : Array Oper) : Bool :=
  let M := closA ops
  (List.range ops.size).all fun x => match ops[x]? with
    | none => false
    | some ox => (ox.after.toList.all fun e => !Region.binds .any e || decide (e.on < x)) &&
      ((M.getD x []).all fun y => ox.after.toList.any fun e => Region.binds .any e && (e.on == y || (M.getD e.on []).contains y)) &&
      ((List.range x).all fun y => (M.getD x []).contains y || match ops[y]? with
        | none => false
        | some oy => oy.apart ops ox && pairOk (sort oy.op) (sort ox.op))

variable {B : Nat} {W0 : World} {nt : Nat}

/-- which are not listed as yet -/
def left (n : Nat) (listed : Array Bool) : List Nat := (List.range n).filter fun k => !listed.getD k true

theorem left_split {n x : Nat} {listed : Array Bool} (hx : x < n) (hl : listed.getD x true = false) :
    ∃ pre post, left n listed = pre ++ x :: post ∧ left n (listed.setIfInBounds x true) = pre ++ post ∧ ∀ y, y ∈ pre → y < x ∧ listed.getD y true = false := by
  have hr : List.range n = List.range x ++ x :: List.range' (x + 1) (n - x - 1) := by
    rw [List.range_eq_range', List.range_eq_range']
    have e : n = x + (n - x - 1 + 1) := by omega
    conv => lhs; rw [e]
    rw [← List.range'_append_1, List.range'_succ]
    simp
  refine ⟨(List.range x).filter fun k => !listed.getD k true, (List.range' (x + 1) (n - x - 1)).filter fun k => !listed.getD k true, ?_, ?_, fun y hy => ?_⟩
  · unfold left
    rw [hr, List.filter_append, List.filter_cons]
    simp [hl]
  · unfold left
    rw [hr, List.filter_append, List.filter_cons]
    have hs : (listed.setIfInBounds x true).getD x true = true := by
      by_cases h : x < listed.size <;> simp [h]
    have hne : ∀ k, k ≠ x → (listed.setIfInBounds x true).getD k true = listed.getD k true := fun k hk => getD_set_ne true (Ne.symm hk)
    rw [hs]
    simp only [Bool.not_true, Bool.false_eq_true, if_false]
    congr 1
    · apply List.filter_congr
      intro k hk
      rw [hne k (by simp at hk; omega)]
    · apply List.filter_congr
      intro k hk
      rw [hne k (by simp at hk; omega)]
  · simp only [List.mem_filter, List.mem_range, Bool.not_eq_true'] at hy
    exact hy

theorem closed_mem {ops : Array Oper} (hd : drawOk ops = true) {listed : Array Bool} (hcl : ∀ k o, ops[k]? = some o → listed.getD k true = true → ∀ e, e ∈ o.after → Region.binds .any e = true → listed.getD e.on false = true) :
    ∀ (x : Nat) (ox : Oper), ops[x]? = some ox → (∀ e, e ∈ ox.after → Region.binds .any e = true → listed.getD e.on false = true) → ∀ y, y ∈ (closA ops).getD x [] → listed.getD y false = true := by
  intro x
  induction x using Nat.strongRecOn with
  | _ x ih =>
    intro ox hox hre y hy
    have hlt : x < ops.size := (Array.getElem?_eq_some_iff.1 hox).1
    have h0 := List.all_eq_true.1 hd x (by simpa using hlt)
    simp only [hox, Bool.and_eq_true] at h0
    obtain ⟨⟨h1, h2⟩, -⟩ := h0
    obtain ⟨e, he, hc⟩ := List.any_eq_true.1 (List.all_eq_true.1 h2 y hy)
    simp only [Bool.and_eq_true, Bool.or_eq_true, beq_iff_eq, List.contains_iff_mem] at hc
    obtain ⟨hb, hc⟩ := hc
    have hel := hre e (by simpa using he) hb
    rcases hc with rfl | hc
    · exact hel
    · have hon : e.on < x := by
        have := List.all_eq_true.1 h1 e he
        simp only [hb, Bool.not_true, Bool.false_or, decide_eq_true_eq] at this
        exact this
      obtain ⟨oe, hoe⟩ : ∃ oe, ops[e.on]? = some oe := ⟨ops[e.on]'(by omega), by simp⟩
      have hel' : listed.getD e.on true = true := by
        cases hq : listed[e.on]? with
        | none => simp [hq] at hel
        | some b => simp [hq] at hel ⊢; exact hel
      exact ih e.on hon oe hoe (hcl e.on oe hoe hel') y hc

theorem draw_any (T : TypesOk P) {ρ0 : Nat → Option Place} {ok0 : Nat → Prop} {w0 : World} {n0 : Nat} {ops : Array Oper} {base : Nat} (hb0 : n0 ≤ base) (hd : drawOk ops = true) (hok : (ops.toList.all (operOk nt)) = true) {Q : St → Prop} {Qc : Exit → Act → World → Prop}
    (hQ : ∀ st a w, Q st → Since B W0 nt ρ0 ok0 w0 n0 st a w → Qc .normal a w) :
    ∀ (fuel : Nat) (listed : Array Bool) (st : St) (a : Act) (w : World) (ρ : Nat → Option Place) (ok : Nat → Prop), listed.size = ops.size → (left ops.size listed).length ≤ fuel →
      (∀ k o, ops[k]? = some o → listed.getD k true = true → ∀ e, e ∈ o.after → Region.binds .any e = true → listed.getD e.on false = true) →
      Rl B W0 ρ ok nt st a w → Ext (fun i => n0 ≤ i) ρ0 ρ ok0 ok w0 w → base + 4 * ops.size ≤ st.n → (∀ k, k ∈ left ops.size listed → ∀ j, j < 4 → ρ (base + 4 * k + j) = none) → runI P ops base (left ops.size listed) Q st → wpAny P .any ops Qc fuel listed a w := by
  intro fuel
  -- where something is left, the first of it is ready
  have hready : ∀ (listed : Array Bool), listed.size = ops.size → Region.ready .any ops listed = [] → left ops.size listed = [] := by
    intro listed hsz hr
    cases hl : left ops.size listed with
    | nil => rfl
    | cons x rest =>
      exfalso
      have hx : x ∈ left ops.size listed := by rw [hl]; simp
      simp only [left, List.mem_filter, List.mem_range, Bool.not_eq_true'] at hx
      obtain ⟨ox, hox⟩ : ∃ o, ops[x]? = some o := ⟨ops[x]'hx.1, by simp⟩
      have hmem : x ∈ Region.ready .any ops listed := by
        rw [mem_ready]
        refine ⟨hx.2, ox, hox, fun e he hb => ?_⟩
        have h0 := List.all_eq_true.1 hd x (by simpa using hx.1)
        simp only [hox, Bool.and_eq_true] at h0
        have hon : e.on < x := by
          have := List.all_eq_true.1 h0.1.1 e (by simpa using he)
          simp only [hb, Bool.not_true, Bool.false_or, decide_eq_true_eq] at this
          exact this
        -- e.on is ahead of the first that is left
        have hnot : listed.getD e.on true = true := by
          cases hq : listed.getD e.on true with
          | true => rfl
          | false =>
            exfalso
            obtain ⟨pre, post, h1, -, h3⟩ := left_split hx.1 hx.2
            have hpre : pre = [] := by
              cases pre with
              | nil => rfl
              | cons z zs =>
                rw [h1] at hl
                simp at hl
                have := h3 z (by simp)
                omega
            subst hpre
            have hin : e.on ∈ left ops.size listed := by
              simp only [left, List.mem_filter, List.mem_range, Bool.not_eq_true']
              exact ⟨by omega, hq⟩
            have hs : (left ops.size listed).Pairwise (· < ·) := (List.pairwise_lt_range).filter _
            rw [hl] at hin hs
            simp only [List.mem_cons] at hin
            rcases hin with hin | hin
            · omega
            · have := (List.pairwise_cons.1 hs).1 _ hin
              omega
        have : e.on < listed.size := by omega
        simp [this] at hnot ⊢
        exact hnot
      rw [hr] at hmem; cases hmem
  induction fuel with
  | zero =>
    intro listed st a w ρ ok hsz hlen hcl R x hn hfree hr
    have hl0 : left ops.size listed = [] := List.eq_nil_of_length_eq_zero (by omega)
    rw [hl0] at hr
    refine ⟨?_, hQ st a w hr ⟨ρ, ok, R, x, by omega⟩⟩
    cases hre : Region.ready .any ops listed with
    | nil => rfl
    | cons i rest =>
      exfalso
      have hi : i ∈ Region.ready .any ops listed := by rw [hre]; simp
      obtain ⟨h1, oi, h2, _⟩ := mem_ready.1 hi
      have : i ∈ left ops.size listed := by
        simp only [left, List.mem_filter, List.mem_range, Bool.not_eq_true']
        exact ⟨(Array.getElem?_eq_some_iff.1 h2).1, h1⟩
      rw [hl0] at this; cases this
  | succ fuel ih =>
    intro listed st a w ρ ok hsz hlen hcl R x hn hfree hr
    refine ⟨fun hre => ?_, fun i hi => ?_⟩
    · have hl0 := hready listed hsz hre
      rw [hl0] at hr
      exact hQ st a w hr ⟨ρ, ok, R, x, by omega⟩
    · obtain ⟨hli, oi, hoi, hre⟩ := mem_ready.1 hi
      have hlt : i < ops.size := (Array.getElem?_eq_some_iff.1 hoi).1
      obtain ⟨pre, post, hl1, hl2, hl3⟩ := left_split hlt hli
      have hopi := List.all_eq_true.1 hok oi (by rw [← Array.getElem?_toList] at hoi; exact List.mem_of_getElem? hoi)
      simp only [operOk, Bool.and_eq_true] at hopi
      have h0 := List.all_eq_true.1 hd i (by simpa using hlt)
      simp only [hoi, Bool.and_eq_true] at h0
      have hpre : ∀ y, y ∈ pre → ∃ oy, Free ops y i oy oi ∧ pairOk (sort oy.op) (sort oi.op) = true := by
        intro y hy
        obtain ⟨hyi, hyl⟩ := hl3 y hy
        have h1 := List.all_eq_true.1 h0.2 y (by simpa using hyi)
        simp only [Bool.or_eq_true] at h1
        rcases h1 with h1 | h1
        · exfalso
          have := closed_mem hd hcl i oi hoi hre y (by simpa using h1)
          have hys : y < listed.size := by omega
          simp [hys] at this hyl
          rw [this] at hyl; cases hyl
        · obtain ⟨oy, hoy⟩ : ∃ oy, ops[y]? = some oy := ⟨ops[y]'(by omega), by simp⟩
          simp only [hoy, Bool.and_eq_true] at h1
          exact ⟨oy, ⟨hoy, by omega, h1.1⟩, h1.2⟩
      have hmem : ∀ k, k ∈ pre ++ post → k ∈ left ops.size listed ∧ k ≠ i := by
        intro k hk
        have h1 : k ∈ left ops.size (listed.setIfInBounds i true) := by rw [hl2]; exact hk
        have h2 : k ∈ left ops.size listed := by
          rw [hl1]
          rcases List.mem_append.1 hk with h | h
          · exact List.mem_append_left _ h
          · exact List.mem_append_right _ (List.mem_cons_of_mem _ h)
        refine ⟨h2, fun e => ?_⟩
        subst e
        simp only [left, List.mem_filter, List.mem_range, Bool.not_eq_true'] at h1
        have hks : k < listed.size := by omega
        simp [hks] at h1
      have himem : i ∈ left ops.size listed := by rw [hl1]; simp
      have hcl' : ∀ k o, ops[k]? = some o → (listed.setIfInBounds i true).getD k true = true → ∀ e, e ∈ o.after → Region.binds .any e = true → (listed.setIfInBounds i true).getD e.on false = true := by
        intro k o hk hkl e he hb
        refine getD_set_true ?_
        by_cases hki : k = i
        · subst hki
          rw [hoi] at hk; cases hk
          exact hre e he hb
        · rw [getD_set_ne true (Ne.symm hki)] at hkl
          exact hcl k o hk hkl e he hb
      have hlen' : (left ops.size (listed.setIfInBounds i true)).length ≤ fuel := by
        rw [hl2]; rw [hl1] at hlen; simp at hlen ⊢; omega
      have hnone : ∀ j, j < 4 → st.h (base + 4 * i + j) = none := by
        intro j hj
        have hp := hfree i himem j hj
        cases hq : st.h (base + 4 * i + j) with
        | none => rfl
        | some e =>
          exfalso
          rcases R.heap.row _ e hq with ⟨q, _⟩ | ⟨b, cap, cur, q, _⟩ <;> (rw [hp] at q; cases q)
      -- behind the operation the rest goes on
      have rest : ∀ st' a' w' ρ' ok', runI P ops base (pre ++ post) Q st' → Rl B W0 ρ' ok' nt st' a' w' → Ext (Names (base + 4 * i) st.n) ρ ρ' ok ok' w w' → st.n ≤ st'.n → wpAny P .any ops Qc fuel (listed.setIfInBounds i true) a' w' := by
        intro st' a' w' ρ' ok' hk R' x' hn'
        refine ih _ st' a' w' ρ' ok' (by simpa using hsz) hlen' hcl' R' (x.trans (x'.weaken fun z hz => ?_)) (by omega) (fun k hk' j hj => ?_) (by rw [hl2]; exact hk)
        · rcases hz with hz | hz <;> omega
        · rw [hl2] at hk'
          obtain ⟨g1, g2⟩ := hmem k hk'
          have hkl : k < ops.size := by
            simp only [left, List.mem_filter, List.mem_range] at g1; exact g1.1
          rw [x'.pl _ (by rintro (hz | hz) <;> omega)]
          exact hfree k g1 j hj
      unfold wpOp
      simp only [hoi]
      rw [want_sound R ops oi]
      rw [hl1] at hr
      by_cases hw : wantA ops oi st.t = true
      · rw [if_pos hw]
        refine Or.inl ?_
        have go : ∀ {h' : Heap} {r : AV}, Ef P (base + 4 * i) oi.op st.t st.h h' r → runI P ops base (pre ++ post) Q (St.put ⟨st.t, h', st.n⟩ oi.dst r) → oi.wp P a w (wpAny P .any ops Qc fuel (listed.setIfInBounds i true)) Qc := by
          intro h' r he hk
          exact step_sound (draw := true) T R hopi.1 hopi.2 (by omega) (hfree i himem) (ef_step (K := runI P ops base (pre ++ post) Q) he hk) rest
        have hsort : sort oi.op = 0 ∨ sort oi.op = 1 ∨ sort oi.op = 2 := by
          unfold sort; split <;> simp
        rcases hsort with hs | hs | hs
        · obtain ⟨rx, t', g1, g2, -, g4⟩ := front0 hoi pre st (fun y hy => (hpre y hy).imp fun oy h => h.1) (fun _ => hs) hr
          obtain ⟨h', g2⟩ := g2 hw
          refine go (h' := st.h) (r := rx) ?_ g4
          unfold Ef
          rw [if_neg (by rw [hs]; simp)]
          exact ⟨[], ((g2.free (h2 := st.h) hs).1).congr (fun o ho => (g1.ev ho).symm), by simp, rfl⟩
        · obtain ⟨rx, nx, t', h', g1, g2, g3, g4, g5⟩ := front1 hoi hs pre st (fun y hy => by
            obtain ⟨oy, f, hp⟩ := hpre y hy
            refine ⟨oy, f, fun e => ?_⟩
            rw [e, hs] at hp; simp [pairOk] at hp) hw hnone hr
          refine go (h' := updL st.h (base + 4 * i) nx) (r := rx) ?_ g5
          unfold Ef
          rw [if_neg (by rw [hs]; simp)]
          refine ⟨nx, Rd.less R (fun z hz => g2 z fun y hy hc => ?_) hopi.1 (by rw [hs]; simp) (g3.congr (fun o ho => (g1.ev ho).symm)), g4, rfl⟩
          have hyl : y ∈ left ops.size listed := by rw [hl1]; exact List.mem_append_left _ hy
          have := hfree y hyl (z - (base + 4 * y)) (by omega)
          rw [show base + 4 * y + (z - (base + 4 * y)) = z by omega] at this
          exact hz this
        · obtain ⟨rx, t', h', g1, g2, g3⟩ := front2 hoi pre st (fun y hy => by
            obtain ⟨oy, f, hp⟩ := hpre y hy
            refine ⟨oy, f, ?_⟩
            rw [hs] at hp; simpa [pairOk] using hp) hw hr
          exact go (h' := h') (r := rx) (g2.congr (fun o ho => (g1.ev ho).symm)) g3
      · rw [if_neg hw]
        obtain ⟨rx, t', -, -, g3, g4⟩ := front0 hoi pre st (fun y hy => (hpre y hy).imp fun oy h => h.1) (fun h => absurd h hw) hr
        have := g3 hw
        subst this
        exact rest _ _ _ _ _ g4 (R.put (Ext.refl (Names (base + 4 * i) st.n) ρ ok w) R.heap (dst_lt hopi.2) .und) (Ext.refl _ _ _ _) (by cases oi.dst <;> exact Nat.le_refl _)

/-- a region whose order is open -/
theorem draw_sound (T : TypesOk P) (hm : P.follows .mixedOrders = true) {ρ0 : Nat → Option Place} {ok0 : Nat → Prop} {w0 : World} {n0 : Nat} {id : Nat} {ops : Array Oper} (hd : drawOk ops = true) (hok : (ops.toList.all (operOk nt)) = true) {Q : St → Prop} {st : St} {a : Act} {w : World} (S : Since B W0 nt ρ0 ok0 w0 n0 st a w)
    (hr : runR P true ops st.n ops.toList 0 Q ⟨st.t, st.h, st.n + 4 * ops.size⟩) {Qc : Exit → Act → World → Prop} (hQ : ∀ st a w, Q st → Since B W0 nt ρ0 ok0 w0 n0 st a w → Qc .normal a w) : (Code.region id ops true).wp P Qc a w := by
  obtain ⟨ρ, ok, R, x, hn⟩ := S
  have hdrew : Below B w w.drew := (Below.refl _ _).drew
  have R' : Rl B W0 ρ ok nt ⟨st.t, st.h, st.n + 4 * ops.size⟩ a w.drew := by
    refine ⟨⟨R.heap.below.drew, R.heap.base, R.heap.okb, fun i hi => R.heap.fresh i (by simp only at hi; omega), fun i e he => ?_, R.heap.inj⟩, fun k => (R.tmps k).mono (fun _ _ => rfl) (fun b hb => ⟨hb, rfl⟩), R.size, R.defers⟩
    rcases R.heap.row i e he with h | ⟨b, cap, cur, q1, q2, q3, q4, q5, q6, q7, q8, q9, q10⟩
    · exact Or.inl h
    · exact Or.inr ⟨b, cap, cur, q1, q2, q3, q4, q5, q6, q7, q8, q9, q10.1, q10.2.1, fun j c u hc hu => (q10.2.2 j c u hc hu).mono (fun _ _ => rfl) (fun b hb => ⟨hb, rfl⟩)⟩
  have x' : Ext (fun i => n0 ≤ i) ρ0 ρ ok0 ok w0 w.drew := ⟨x.pl, x.keep, x.stay, x.new, x.size⟩
  have hrep : ∀ k, (Array.replicate ops.size false).getD k true = true → ops.size ≤ k := by
    intro k hk
    by_cases h : k < ops.size
    · simp [h] at hk
    · omega
  have hleft : left ops.size (Array.replicate ops.size false) = List.range ops.size := by
    unfold left
    rw [List.filter_eq_self]
    intro k hk
    simp at hk
    simp [hk]
  refine wp_region_any hm ?_
  refine draw_any T hn hd hok hQ ops.size _ ⟨st.t, st.h, st.n + 4 * ops.size⟩ a w.drew ρ ok (by simp) (by rw [hleft]; simp) (fun k o hk hl => ?_) R' x' (Nat.le_refl _) (fun k hk j hj => ?_) ?_
  · have h1 := hrep k hl
    have h2 := (Array.getElem?_eq_some_iff.1 hk).1
    omega
  · rw [hleft] at hk
    exact R.heap.fresh _ (by omega)
  · rw [hleft, List.range_eq_range']
    have := runR_runI (P := P) (ops := ops) (base := st.n) (Q := Q) ops.toList 0 ⟨st.t, st.h, st.n + 4 * ops.size⟩ rfl hr
    simpa using this

end
end Go.Proofs.Ytdjdjnmccphbjaa.E
