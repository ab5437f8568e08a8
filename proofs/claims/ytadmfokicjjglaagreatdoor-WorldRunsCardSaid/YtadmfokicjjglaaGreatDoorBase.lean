
/- Base: predicates that say how plain data lie in memory, and how they stay; no program is named here. -/
import Derived.WalkKit
import Derived.ProofKit
import Derived.WalkLawsBesides
import Derived.WalkSpells
import Derived.Deep.LoopGhost
import Derived.Deep.Light
import Derived.Deep.Onto
import Derived.Deep.DeepCutAuto
import Derived.Deep.QuietTactic
import Derived.BigQuiet
import Derived.Deep.RegionWith
namespace Go.Proofs.YtadmfokicjjglaaGreatDoor
open Go.RowKit
theorem hid {p : Prop} (h : p) : Hid p := h
def nth (xs : List Int) (k : Nat) : Int := xs.getD k 0
def T : Nat -> Prop := fun _ => True
def From (B : Nat) : Nat -> Prop := fun b => B <= b
def Sl (F : Nat -> Prop) (w : World) (v : Value) (n size : Nat) (cs : List Value) : Prop :=
 ∃ a cap, v = .slice a n cap /\ cs.length = n * size /\ n <= cap /\ cap <= 9223372036854775807 /\ (a = none -> n = 0 /\ cap = 0) /\
  ∀ ad, a = some ad -> 0 < n -> F ad.block /\ ad.spot = none /\ ad.block < w.heap.size /\ ∀ j u, cs[j]? = some u -> w.cell? ⟨ad.block, ad.off + j, none⟩ = some u
def Keeps (F : Nat -> Prop) (w w' : World) : Prop := ∀ b, F b -> b < w.heap.size -> w'.heap[b]? = w.heap[b]?
theorem Keeps.below {w w' : World} {F : Nat -> Prop} (h : Below w.heap.size w w') : Keeps F w w' := fun b _ hb => h.block b hb
theorem lt_of_some {w : World} {b : Nat} {o : Obj} (h : w.heap[b]? = some o) : b < w.heap.size := by
 rcases Nat.lt_or_ge b w.heap.size with g | g
 ·exact g
 ·simp [Array.getElem?_eq_none g] at h
theorem Keeps.lt {F : Nat -> Prop} {w w' : World} (h : Keeps F w w') {b : Nat} (hF : F b) (hb : b < w.heap.size) : b < w'.heap.size := by
 have := h b hF hb;rw [Array.getElem?_eq_getElem hb] at this;exact lt_of_some this
theorem Keeps.trans {F : Nat -> Prop} {a b c : World} (h : Keeps F a b) (k : Keeps F b c) : Keeps F a c :=
 fun i hi hl => (k i hi (h.lt hi hl)).trans (h i hi hl)
theorem Sl.keep {F : Nat -> Prop} {w w' : World} (hk : Keeps F w w') {v n size cs} (h : Sl F w v n size cs) : Sl F w' v n size cs := by
 obtain ⟨a, cap, rfl, h1, h2, h3, h4, h5⟩ := h;refine ⟨a, cap, rfl, h1, h2, h3, h4, fun ad e hp => ?_⟩;obtain ⟨g0, g1, g2, g3⟩ := h5 ad e hp;refine ⟨g0, g1, hk.lt g0 g2, fun j u hj => ?_⟩;rw [World.cell?_of_block (w := w) (a := ⟨ad.block, ad.off + j, none⟩) (hk ad.block g0 g2)];exact g3 j u hj
theorem Sl.below {F : Nat -> Prop} {w w' : World} (hb : Below w.heap.size w w') {v n size cs} (h : Sl F w v n size cs) : Sl F w' v n size cs := h.keep (Keeps.below hb)
theorem Sl.weaken {F G : Nat -> Prop} {w : World} (hFG : ∀ b, b < w.heap.size -> F b -> G b) {v n size cs} (h : Sl F w v n size cs) : Sl G w v n size cs := by
 obtain ⟨a, cap, rfl, h1, h2, h3, h4, h5⟩ := h;refine ⟨a, cap, rfl, h1, h2, h3, h4, fun ad e hp => ?_⟩;obtain ⟨g0, g1, g2, g3⟩ := h5 ad e hp;exact ⟨hFG _ g2 g0, g1, g2, g3⟩
theorem Sl.any {F : Nat -> Prop} {w : World} {v n size cs} (h : Sl F w v n size cs) : Sl T w v n size cs := h.weaken (fun _ _ _ => trivial)
theorem Sl.nil (F : Nat -> Prop) (w : World) (size : Nat) : Sl F w (.slice none 0 0) 0 size [] :=
 ⟨none, 0, rfl, by simp, Nat.le_refl _, by omega, fun _ => ⟨rfl, rfl⟩, fun ad e _ => by cases e⟩
theorem Sl.own {w : World} {B e size : Nat} {v : Value} {n : Nat} {cs : List Value} (h : w.ownsRow B e size v n cs) : Sl (From B) w v n size cs := by
 obtain ⟨h1, ⟨rfl, rfl⟩ | ⟨g, cap, cur, rfl, hB, hh, hc, hm, hs, hx⟩⟩ := h
 ·have : cs = [] := by cases cs with | nil => rfl | cons _ _ => simp at h1
  subst this;exact Sl.nil _ _ _
 ·refine ⟨some ⟨g, 0, none⟩, cap, rfl, h1, hc, by simpa [maxLen] using hm, (fun e => by cases e), fun ad e _ => ?_⟩;cases e;refine ⟨hB, rfl, lt_of_some hh, fun j u hj => ?_⟩;simp only [World.cell?, hh, Nat.zero_add];rw [<- hx] at hj;simp only [List.getElem?_take] at hj;split at hj
  ·simpa [Array.getElem?_toList] using hj
  ·cases hj
theorem Sl.news {F : Nat -> Prop} {w : World} {b off n cap size : Nat} {cs : List Value} (h : Sl F w (.slice (some ⟨b, off, none⟩) n cap) n size cs) :
  ∀ j u, cs[j]? = some u -> w.cell? ((⟨b, off, none⟩ : Addr).add j) = some u := by
 obtain ⟨a, c, e, h1, h2, h3, h4, h5⟩ := h;cases e;intro j u hj
 have hp : 0 < n := by
  have := (List.getElem?_eq_some_iff.1 hj).1;rcases Nat.eq_zero_or_pos n with h0 | h0
  ·subst h0; simp at h1; subst h1; simp at this
  ·exact h0
 have e : (⟨b, off, none⟩ : Addr).add j = ⟨b, off + j, none⟩ := by
  unfold Addr.add; split
  ·rename_i h; subst h; rfl
  ·rfl
 rw [e];exact (h5 _ rfl hp).2.2.2 j u hj
theorem Sl.some {F : Nat -> Prop} {w : World} {a : Option Addr} {n m cap size : Nat} {cs : List Value} (h : Sl F w (.slice a n cap) m size cs) (hn : 0 < n) : ∃ b off, a = some ⟨b, off, none⟩ /\ n = m /\ F b /\ b < w.heap.size := by
 obtain ⟨a', c, e, h1, h2, h3, h4, h5⟩ := h;cases e;cases a with
 | none => have := (h4 rfl).1; omega
 | some ad =>
  obtain ⟨g0, g1, g2, _⟩ := h5 ad rfl (by omega);obtain ⟨b, off, sp⟩ := ad;simp only at g1;subst g1;exact ⟨b, off, rfl, rfl, g0, g2⟩
def iv (xs : List Int) : List Value := xs.map (Value.int .i64)
@[simp] theorem iv_length (xs : List Int) : (iv xs).length = xs.length := by simp [iv]
theorem iv_get {xs : List Int} {k : Nat} (h : k < xs.length) : (iv xs)[k]? = some (.int .i64 (nth xs k)) := by simp [iv, nth, h]
def Ints (F : Nat -> Prop) (w : World) (v : Value) (xs : List Int) : Prop := Sl F w v xs.length 1 (iv xs)
theorem Ints.own {w : World} {B B' e : Nat} {v : Value} {n : Nat} {xs : List Int} (hB : B' <= B) (hn : xs.length = n) (h : w.ownsRow B e 1 v n (iv xs)) : Ints (From B') w v xs := by
 subst hn;exact (Sl.own h).weaken (fun b _ hb => Nat.le_trans hB hb)
theorem Ints.keep {F : Nat -> Prop} {w w' : World} (hk : Keeps F w w') {v xs} (h : Ints F w v xs) : Ints F w' v xs := Sl.keep hk h
theorem Ints.below {F : Nat -> Prop} {w w' : World} (hb : Below w.heap.size w w') {v xs} (h : Ints F w v xs) : Ints F w' v xs := Sl.below hb h
theorem Ints.any {F : Nat -> Prop} {w : World} {v xs} (h : Ints F w v xs) : Ints T w v xs := Sl.any h
theorem Ints.nil (F : Nat -> Prop) (w : World) : Ints F w (.slice none 0 0) [] := Sl.nil _ _ _
theorem Ints.open {F : Nat -> Prop} {w : World} {v : Value} {xs : List Int} (h : Ints F w v xs) :
  ∃ (n : Nat) (a : Option Addr) (cap : Nat), v = .slice a n cap /\ Hid (xs.length = n) /\ n <= cap /\ cap <= 9223372036854775807 /\ Hid (a = none -> n = 0 /\ cap = 0) /\
   (∀ k, k < n -> ∃ b off, a = some ⟨b, off, none⟩ /\ b < w.heap.size /\ w.cell? ⟨b, off + k, none⟩ = some (.int .i64 (nth xs k))) := by
 obtain ⟨a, cap, rfl, _, h2, h3, h4, h5⟩ := h;refine ⟨_, a, cap, rfl, rfl, h2, h3, h4, fun k hk => ?_⟩;cases a with
 | none => have := (h4 rfl).1; omega
 | some ad =>
  obtain ⟨g0, g1, g2, g3⟩ := h5 ad rfl (by omega);obtain ⟨b, off, sp⟩ := ad;simp only at g1;subst g1;exact ⟨b, off, rfl, g2, g3 k _ (iv_get hk)⟩
theorem Ints.shape {F : Nat -> Prop} {w : World} {v : Value} {xs : List Int} (h : Ints F w v xs) {n : Nat} (hn : xs.length = n) : ∃ a c, v = .slice a n c := by
 obtain ⟨a, c, rfl, _⟩ := h;exact ⟨a, c, by rw [hn]⟩
theorem Sl.cut {F : Nat -> Prop} {w : World} {a : Option Addr} {n cap : Nat} {cs : List Value} (h : Sl F w (.slice a n cap) n 1 cs) {k m : Nat} (hk : k + m <= n) (hlt : ¬ cap = k) :
  Sl F w (.slice (Option.map (fun x => x.add k) a) m (cap - k)) m 1 ((cs.drop k).take m) := by
 obtain ⟨a', c, e, h1, h2, h3, h4, h5⟩ := h;cases e;refine ⟨_, _, rfl, by simp; omega, by omega, by omega, fun e => ?_, fun ad e hp => ?_⟩
 ·cases a with
  | none => have := h4 rfl; omega
  | some ad => cases e
 ·cases a with
  | none => cases e
  | some ad0 =>
   obtain ⟨g0, g1, g2, g3⟩ := h5 ad0 rfl (by omega);obtain ⟨b, off, sp⟩ := ad0;simp only at g1;subst g1
   have e' : (⟨b, off, none⟩ : Addr).add k = ⟨b, off + k, none⟩ := by
    unfold Addr.add; split
    ·rename_i h; subst h; rfl
    ·rfl
   simp only [Option.map_some, e'] at e;cases e;refine ⟨g0, rfl, g2, fun j u hj => ?_⟩;rw [List.getElem?_take] at hj;split at hj
   ·rw [List.getElem?_drop] at hj;have := g3 (k + j) u hj;simpa [Nat.add_assoc] using this
   ·cases hj
theorem iv_cut (xs : List Int) (k m : Nat) : iv ((xs.drop k).take m) = ((iv xs).drop k).take m := by simp [iv, List.map_take, List.map_drop]
theorem Sl.take {F : Nat -> Prop} {w : World} {a : Option Addr} {n cap size : Nat} {cs : List Value} (h : Sl F w (.slice a n cap) n size cs) {m : Nat} (hm : m <= n) : Sl F w (.slice a m cap) m size (cs.take (m * size)) := by
 obtain ⟨a', c, e, h1, h2, h3, h4, h5⟩ := h;cases e;refine ⟨_, _, rfl, ?_, by omega, h3, fun e => ?_, fun ad e hp => ?_⟩
 ·rw [List.length_take, h1];exact Nat.min_eq_left (Nat.mul_le_mul_right _ hm)
 ·have := h4 e; omega
 ·obtain ⟨g0, g1, g2, g3⟩ := h5 ad e (by omega);refine ⟨g0, g1, g2, fun j u hj => ?_⟩;rw [List.getElem?_take] at hj;split at hj
  ·exact g3 j u hj
  ·cases hj
theorem Ints.take {F : Nat -> Prop} {w : World} {a : Option Addr} {n cap : Nat} {xs : List Int} (h : Ints F w (.slice a n cap) xs) (hn : xs.length = n) {m : Nat} (hm : m <= n) : Ints F w (.slice a m cap) (xs.take m) := by
 subst hn;have := Sl.take h hm;unfold Ints;rw [List.length_take, Nat.min_eq_left hm];rw [Nat.mul_one] at this;simpa [iv, List.map_take] using this
theorem Ints.cut {F : Nat -> Prop} {w : World} {a : Option Addr} {n cap : Nat} {xs : List Int} (h : Ints F w (.slice a n cap) xs) (hn : xs.length = n) {k m : Nat} (hk : k + m <= n) (hlt : ¬ cap = k) :
  Ints F w (.slice (Option.map (fun x => x.add k) a) m (cap - k)) ((xs.drop k).take m) := by
 subst hn;have := Sl.cut h hk hlt;unfold Ints;rw [List.length_take, List.length_drop, Nat.min_eq_left (by omega), iv_cut];exact this
end Go.Proofs.YtadmfokicjjglaaGreatDoor
