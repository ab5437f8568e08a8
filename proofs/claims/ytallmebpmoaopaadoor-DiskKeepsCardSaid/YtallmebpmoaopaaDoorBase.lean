
/- Base: predicates that say how plain data lie in memory, and how they stay; no program is named here. -/
import Derived.WalkKit
import Derived.ProofKit
import Derived.WalkLawsBesides
import Derived.WalkSpells
import Derived.Deep.LoopGhost
import Derived.Deep.Light
import Derived.Deep.Onto
import Derived.Deep.DeepCutAuto
import Derived.Deep.QuietTactic
import Derived.BigQuiet
import Derived.Deep.RegionWith
namespace Go.Proofs.YtallmebpmoaopaaDoor
open Go.RowKit

/-- a fact kept from the walk -/
theorem hid {p : Prop} (h : p) : Hid p := h

theorem hs_setCell (w : World) (p : Addr) (u : Value) : (w.setCell p u).heap.size = w.heap.size := by simp [World.setCell]
theorem hs_alloc (w : World) (o : Obj) : (w.alloc o).heap.size = w.heap.size + 1 := by simp
theorem hs_drew (w : World) : w.drew.heap.size = w.heap.size := rfl
theorem hs_drewN (w : World) (n : Nat) : (w.drewN n).heap.size = w.heap.size := rfl

/-- a second store to one cell -/
theorem setCell_same (w : World) (a : Addr) (u v : Value) : (w.setCell a u).setCell a v = w.setCell a v := by
  simp only [World.setCell]
  congr 1
  apply Array.ext_getElem?
  intro i
  simp only [Array.getElem?_modify]
  split
  · cases w.heap[i]? with
    | none => rfl
    | some o =>
      simp only [Option.map_some]
      cases o <;> simp only []
      split
      · rfl
      · simp
  · rfl

/-- the k-th number of a list; 0 behind its end -/
def nth (xs : List Int) (k : Nat) : Int := xs.getD k 0
theorem nth_eq {xs : List Int} {k : Nat} (h : k < xs.length) : nth xs k = xs[k] := by simp [nth, List.getD, h]

theorem any_false {xs : List Int} {p : Int → Bool} (h : ∀ j, j < xs.length → p (nth xs j) = false) : xs.any p = false := by
  rw [List.any_eq_false]
  intro x hx
  obtain ⟨i, hi, rfl⟩ := List.mem_iff_getElem.1 hx
  have := h i hi
  rw [nth_eq hi] at this
  simpa using this
theorem any_true {xs : List Int} {p : Int → Bool} {k : Nat} (hk : k < xs.length) (h : p (nth xs k) = true) : xs.any p = true := by
  rw [List.any_eq_true]
  exact ⟨xs[k], List.getElem_mem _, by rw [nth_eq hk] at h; exact h⟩
theorem all_below_succ {p : Nat → Prop} {k : Nat} (h : ∀ j, j < k → p j) (hk : p k) : ∀ j, j < k + 1 → p j := by
  intro j hj
  by_cases e : j = k
  · subst e; exact hk
  · exact h j (by omega)

/-- old cells read as before -/
theorem bcell {W w1 : World} (hb : Below W.heap.size W w1) : (∀ b o, b < W.heap.size → w1.cell? ⟨b, o, none⟩ = W.cell? ⟨b, o, none⟩) ∧ (∀ b o, b < W.heap.size → w1.frozen? ⟨b, o, none⟩ = W.frozen? ⟨b, o, none⟩) :=
  ⟨fun b o h => hb.cell (p := ⟨b, o, none⟩) h, fun b o h => hb.frozen (p := ⟨b, o, none⟩) h⟩

theorem box_cell {W w1 : World} (hb : Below W.heap.size W w1) {b o : Nat} {v : Value} (h : W.cell? ⟨b, o, none⟩ = some v) : w1.cell? ⟨b, o, none⟩ = some v := by
  rw [hb.cell (p := ⟨b, o, none⟩) (World.block_lt_of_cell? (w := W) (a := ⟨b, o, none⟩) h)]; exact h
theorem box_free {W w1 : World} (hb : Below W.heap.size W w1) {b o : Nat} {v : Value} (h : W.cell? ⟨b, o, none⟩ = some v) (hf : W.frozen? ⟨b, o, none⟩ = false) : w1.frozen? ⟨b, o, none⟩ = false := by
  rw [hb.frozen (p := ⟨b, o, none⟩) (World.block_lt_of_cell? (w := W) (a := ⟨b, o, none⟩) h)]; exact hf

theorem box_cellB {B : Nat} {W w1 : World} {b o : Nat} {v : Value} (hb : Below B W w1) (hl : b < B) (h : W.cell? ⟨b, o, none⟩ = some v) : w1.cell? ⟨b, o, none⟩ = some v := by
  rw [hb.cell (p := ⟨b, o, none⟩) hl]; exact h
theorem box_freeB {B : Nat} {W w1 : World} {b o : Nat} {v : Value} (hb : Below B W w1) (hl : b < B) (_h : W.cell? ⟨b, o, none⟩ = some v) (hf : W.frozen? ⟨b, o, none⟩ = false) : w1.frozen? ⟨b, o, none⟩ = false := by
  rw [hb.frozen (p := ⟨b, o, none⟩) hl]; exact hf

theorem below_from {w W w' : World} (h : Below w.heap.size w W) (hb : Below W.heap.size W w') : Below w.heap.size w w' := h.trans (hb.mono h.size)

theorem heap_alloc_at {w : World} {o o' : Obj} {k : Nat} (h : k = w.heap.size) (ho : o = o') : (w.alloc o).heap[k]? = some o' := by
  subst h; subst ho
  show (w.heap.push o)[w.heap.size]? = _
  simp
theorem heap_alloc_lt {w : World} {o o' : Obj} {k : Nat} (h : w.heap[k]? = some o') : (w.alloc o).heap[k]? = some o' := by
  have hl : k < w.heap.size := by
    rcases Nat.lt_or_ge k w.heap.size with g | g
    · exact g
    · simp [Array.getElem?_eq_none g] at h
  rw [Below.heap_alloc _ _ _ hl]; exact h
theorem heap_drew {w : World} {o' : Obj} {k : Nat} (h : w.heap[k]? = some o') : w.drew.heap[k]? = some o' := h
theorem heap_drewN {w : World} {o' : Obj} {k n : Nat} (h : w.heap[k]? = some o') : (w.drewN n).heap[k]? = some o' := h

theorem cell_alloc {w : World} {b o : Nat} {v : Value} (h : w.cell? ⟨b, o, none⟩ = some v) (x : Obj) : (w.alloc x).cell? ⟨b, o, none⟩ = some v := by
  rw [((Below.refl _ w).alloc (Nat.le_refl _) x).cell (p := ⟨b, o, none⟩) (World.block_lt_of_cell? (w := w) (a := ⟨b, o, none⟩) h)]; exact h
theorem cell_drew {w : World} {b o : Nat} {v : Value} (h : w.cell? ⟨b, o, none⟩ = some v) : w.drew.cell? ⟨b, o, none⟩ = some v := h
theorem cell_drewN {w : World} {b o n : Nat} {v : Value} (h : w.cell? ⟨b, o, none⟩ = some v) : (w.drewN n).cell? ⟨b, o, none⟩ = some v := h
theorem cell_set_other {w : World} {b o : Nat} {v : Value} (h : w.cell? ⟨b, o, none⟩ = some v) {b' o' : Nat} (hne : b ≠ b' ∨ o ≠ o') (u : Value) : (w.setCell ⟨b', o', none⟩ u).cell? ⟨b, o, none⟩ = some v := by
  by_cases hb : b = b'
  · subst hb
    have ho : o' ≠ o := by rcases hne with h | h; exact absurd rfl h; exact fun e => h e.symm
    unfold World.cell? at h ⊢
    simp only [World.setCell, Array.getElem?_modify]
    cases hw : w.heap[b]? with
    | none => rw [hw] at h; cases h
    | some x =>
      rw [hw] at h
      cases x <;> simp at h ⊢
      rw [Array.getElem?_setIfInBounds_ne ho]; exact h
  · rw [World.cell?_of_block (w := w) (Below.heap_setCell _ _ _ _ hb)]; exact h
theorem cell_set_same {w : World} {b o : Nat} {v0 : Value} (h : w.cell? ⟨b, o, none⟩ = some v0) (u : Value) : (w.setCell ⟨b, o, none⟩ u).cell? ⟨b, o, none⟩ = some u := by
  unfold World.cell? at h ⊢
  simp only [World.setCell, Array.getElem?_modify]
  cases hw : w.heap[b]? with
  | none => rw [hw] at h; cases h
  | some x =>
    rw [hw] at h
    cases x <;> simp at h ⊢
    have hl : o < (by assumption : Array Value).size := by
      rcases Nat.lt_or_ge o (by assumption : Array Value).size with g | g
      · exact g
      · simp [Array.getElem?_eq_none g] at h
    simp [hl]
theorem cell_alloc2 {w : World} {b o : Nat} {v : Value} (h : w.cell? ⟨b, o, none⟩ = some v) (x y : Obj) : ((w.alloc x).alloc y).cell? ⟨b, o, none⟩ = some v := cell_alloc (cell_alloc h x) y

/-- anywhere -/
def T : Nat → Prop := fun _ => True
/-- from a block on -/
def From (B : Nat) : Nat → Prop := fun b => B ≤ b

/-- a slice of n elements of so many cells each is at v: cs are the cells; they lie in a block of F -/
def Sl (F : Nat → Prop) (w : World) (v : Value) (n size : Nat) (cs : List Value) : Prop :=
  ∃ a cap, v = .slice a n cap ∧ cs.length = n * size ∧ n ≤ cap ∧ cap ≤ 9223372036854775807 ∧ (a = none → n = 0 ∧ cap = 0) ∧
    ∀ ad, a = some ad → 0 < n → F ad.block ∧ ad.spot = none ∧ ad.block < w.heap.size ∧ ∀ j u, cs[j]? = some u → w.cell? ⟨ad.block, ad.off + j, none⟩ = some u

/-- w' has the blocks of F as w had them -/
def Keeps (F : Nat → Prop) (w w' : World) : Prop := ∀ b, F b → b < w.heap.size → w'.heap[b]? = w.heap[b]?

theorem Keeps.below {w w' : World} {F : Nat → Prop} (h : Below w.heap.size w w') : Keeps F w w' := fun b _ hb => h.block b hb
theorem keeps_refl (F : Nat → Prop) (w : World) : Keeps F w w := fun _ _ _ => rfl
theorem lt_of_some {w : World} {b : Nat} {o : Obj} (h : w.heap[b]? = some o) : b < w.heap.size := by
  rcases Nat.lt_or_ge b w.heap.size with g | g
  · exact g
  · simp [Array.getElem?_eq_none g] at h
theorem Keeps.lt {F : Nat → Prop} {w w' : World} (h : Keeps F w w') {b : Nat} (hF : F b) (hb : b < w.heap.size) : b < w'.heap.size := by
  have := h b hF hb
  rw [Array.getElem?_eq_getElem hb] at this
  exact lt_of_some this
theorem keeps_setCell {F : Nat → Prop} {w w' : World} (h : Keeps F w w') {p : Addr} (u : Value) (hF : ¬ F p.block) : Keeps F w (w'.setCell p u) :=
  fun b hb hl => by rw [Below.heap_setCell _ _ _ _ (by intro e; subst e; exact hF hb)]; exact h b hb hl
theorem keeps_alloc {F : Nat → Prop} {w w' : World} (h : Keeps F w w') (o : Obj) : Keeps F w (w'.alloc o) :=
  fun b hb hl => by rw [Below.heap_alloc _ _ _ (h.lt hb hl)]; exact h b hb hl
theorem keeps_drew {F : Nat → Prop} {w w' : World} (h : Keeps F w w') : Keeps F w w'.drew := h
theorem Keeps.trans {F : Nat → Prop} {a b c : World} (h : Keeps F a b) (k : Keeps F b c) : Keeps F a c :=
  fun i hi hl => (k i hi (h.lt hi hl)).trans (h i hi hl)

theorem Sl.keep {F : Nat → Prop} {w w' : World} (hk : Keeps F w w') {v n size cs} (h : Sl F w v n size cs) : Sl F w' v n size cs := by
  obtain ⟨a, cap, rfl, h1, h2, h3, h4, h5⟩ := h
  refine ⟨a, cap, rfl, h1, h2, h3, h4, fun ad e hp => ?_⟩
  obtain ⟨g0, g1, g2, g3⟩ := h5 ad e hp
  refine ⟨g0, g1, hk.lt g0 g2, fun j u hj => ?_⟩
  rw [World.cell?_of_block (w := w) (a := ⟨ad.block, ad.off + j, none⟩) (hk ad.block g0 g2)]
  exact g3 j u hj
theorem Sl.below {F : Nat → Prop} {w w' : World} (hb : Below w.heap.size w w') {v n size cs} (h : Sl F w v n size cs) : Sl F w' v n size cs := h.keep (Keeps.below hb)
theorem Sl.weaken {F G : Nat → Prop} {w : World} (hFG : ∀ b, b < w.heap.size → F b → G b) {v n size cs} (h : Sl F w v n size cs) : Sl G w v n size cs := by
  obtain ⟨a, cap, rfl, h1, h2, h3, h4, h5⟩ := h
  refine ⟨a, cap, rfl, h1, h2, h3, h4, fun ad e hp => ?_⟩
  obtain ⟨g0, g1, g2, g3⟩ := h5 ad e hp
  exact ⟨hFG _ g2 g0, g1, g2, g3⟩
theorem Sl.any {F : Nat → Prop} {w : World} {v n size cs} (h : Sl F w v n size cs) : Sl T w v n size cs := h.weaken (fun _ _ _ => trivial)
theorem Sl.nil (F : Nat → Prop) (w : World) (size : Nat) : Sl F w (.slice none 0 0) 0 size [] :=
  ⟨none, 0, rfl, by simp, Nat.le_refl _, by omega, fun _ => ⟨rfl, rfl⟩, fun ad e _ => by cases e⟩
/-- what is owned can be read -/
theorem Sl.own {w : World} {B e size : Nat} {v : Value} {n : Nat} {cs : List Value} (h : w.ownsRow B e size v n cs) : Sl (From B) w v n size cs := by
  obtain ⟨h1, ⟨rfl, rfl⟩ | ⟨g, cap, cur, rfl, hB, hh, hc, hm, hs, hx⟩⟩ := h
  · have : cs = [] := by cases cs with | nil => rfl | cons _ _ => simp at h1
    subst this
    exact Sl.nil _ _ _
  · refine ⟨some ⟨g, 0, none⟩, cap, rfl, h1, hc, by simpa [maxLen] using hm, (fun e => by cases e), fun ad e _ => ?_⟩
    cases e
    refine ⟨hB, rfl, lt_of_some hh, fun j u hj => ?_⟩
    simp only [World.cell?, hh, Nat.zero_add]
    rw [← hx] at hj
    simp only [List.getElem?_take] at hj
    split at hj
    · simpa [Array.getElem?_toList] using hj
    · cases hj
theorem own_shape {w : World} {B e size : Nat} {v : Value} {n : Nat} {cs : List Value} (h : w.ownsRow B e size v n cs) : ∃ a c, v = .slice a n c := by
  obtain ⟨h1, ⟨rfl, rfl⟩ | ⟨g, cap, cur, rfl, _⟩⟩ := h
  · exact ⟨none, 0, rfl⟩
  · exact ⟨_, cap, rfl⟩
theorem own_below {w w' : World} (hb : Below w.heap.size w w') {B e size : Nat} {v : Value} {n : Nat} {cs : List Value} (h : w.ownsRow B e size v n cs) : w'.ownsRow B e size v n cs := by
  obtain ⟨h1, h2⟩ := h
  refine ⟨h1, ?_⟩
  rcases h2 with h2 | ⟨g, cap, cur, hv, hg, hh, r⟩
  · exact Or.inl h2
  · exact Or.inr ⟨g, cap, cur, hv, hg, by rw [hb.block _ (lt_of_some hh)]; exact hh, r⟩

theorem own_setCell {w : World} {B e size : Nat} {v : Value} {n : Nat} {cs : List Value} (h : w.ownsRow B e size v n cs) {p : Addr} (hp : p.block < B) (u : Value) : (w.setCell p u).ownsRow B e size v n cs :=
  ownsRow_setCell_below h hp u
theorem own_mono {w : World} {B B' e size : Nat} {v : Value} {n : Nat} {cs : List Value} (h : w.ownsRow B e size v n cs) (hB : B' ≤ B) : w.ownsRow B' e size v n cs := World.ownsRow.mono h hB

theorem own_lt {w : World} {B e size : Nat} {v : Value} {n : Nat} {cs : List Value} (h : w.ownsRow B e size v n cs) : ∀ k, v.ownBlock = some k → B ≤ k := fun k hk => (h.lt k hk).1
/-- an append to a row of one's own turns nothing below it -/
theorem below_append {w w' : World} {B e size : Nat} {v : Value} {n : Nat} {cs : List Value} (h : w.ownsRow B e size v n cs) (hg : w.grownBy w' v.ownBlock) (hB : B ≤ w.heap.size) : Below B w w' :=
  (Below.refl _ _).grown hg hB (own_lt h)
theorem Sl.news {F : Nat → Prop} {w : World} {b off n cap size : Nat} {cs : List Value} (h : Sl F w (.slice (some ⟨b, off, none⟩) n cap) n size cs) :
    ∀ j u, cs[j]? = some u → w.cell? ((⟨b, off, none⟩ : Addr).add j) = some u := by
  obtain ⟨a, c, e, h1, h2, h3, h4, h5⟩ := h
  cases e
  intro j u hj
  have hp : 0 < n := by
    have := (List.getElem?_eq_some_iff.1 hj).1
    rcases Nat.eq_zero_or_pos n with h0 | h0
    · subst h0; simp at h1; subst h1; simp at this
    · exact h0
  have e : (⟨b, off, none⟩ : Addr).add j = ⟨b, off + j, none⟩ := by
    unfold Addr.add; split
    · rename_i h; subst h; rfl
    · rfl
  rw [e]
  exact (h5 _ rfl hp).2.2.2 j u hj
/-- a slice that is not empty has an address -/
theorem Sl.some {F : Nat → Prop} {w : World} {a : Option Addr} {n m cap size : Nat} {cs : List Value} (h : Sl F w (.slice a n cap) m size cs) (hn : 0 < n) : ∃ b off, a = some ⟨b, off, none⟩ ∧ n = m ∧ F b ∧ b < w.heap.size := by
  obtain ⟨a', c, e, h1, h2, h3, h4, h5⟩ := h
  cases e
  cases a with
  | none => have := (h4 rfl).1; omega
  | some ad =>
    obtain ⟨g0, g1, g2, _⟩ := h5 ad rfl (by omega)
    obtain ⟨b, off, sp⟩ := ad
    simp only at g1
    subst g1
    exact ⟨b, off, rfl, rfl, g0, g2⟩

/-- the values of numbers -/
def iv (xs : List Int) : List Value := xs.map (Value.int .i64)
@[simp] theorem iv_length (xs : List Int) : (iv xs).length = xs.length := by simp [iv]
theorem iv_get {xs : List Int} {k : Nat} (h : k < xs.length) : (iv xs)[k]? = some (.int .i64 (nth xs k)) := by simp [iv, nth, h]
theorem iv_append (xs ys : List Int) : iv xs ++ iv ys = iv (xs ++ ys) := by simp [iv]
theorem iv_one (xs : List Int) : ∀ u ∈ iv xs, u.oneCell' = true := by
  intro u hu
  obtain ⟨n, _, rfl⟩ := List.mem_map.1 hu
  rfl

/-- numbers at a slice -/
def Ints (F : Nat → Prop) (w : World) (v : Value) (xs : List Int) : Prop := Sl F w v xs.length 1 (iv xs)

theorem Ints.own {w : World} {B B' e : Nat} {v : Value} {n : Nat} {xs : List Int} (hB : B' ≤ B) (hn : xs.length = n) (h : w.ownsRow B e 1 v n (iv xs)) : Ints (From B') w v xs := by
  subst hn
  exact (Sl.own h).weaken (fun b _ hb => Nat.le_trans hB hb)
theorem own_alloc {w : World} {B e size : Nat} {v : Value} {n : Nat} {cs : List Value} (h : w.ownsRow B e size v n cs) (o : Obj) : (w.alloc o).ownsRow B e size v n cs := h.alloc o
theorem own_drew {w : World} {B e size : Nat} {v : Value} {n : Nat} {cs : List Value} (h : w.ownsRow B e size v n cs) : w.drew.ownsRow B e size v n cs := h
theorem Ints.keep {F : Nat → Prop} {w w' : World} (hk : Keeps F w w') {v xs} (h : Ints F w v xs) : Ints F w' v xs := Sl.keep hk h
theorem Ints.below {F : Nat → Prop} {w w' : World} (hb : Below w.heap.size w w') {v xs} (h : Ints F w v xs) : Ints F w' v xs := Sl.below hb h
theorem Ints.any {F : Nat → Prop} {w : World} {v xs} (h : Ints F w v xs) : Ints T w v xs := Sl.any h
theorem Ints.nil (F : Nat → Prop) (w : World) : Ints F w (.slice none 0 0) [] := Sl.nil _ _ _
/-- a slice of numbers, opened: its length stands as a number of its own -/
theorem Ints.open {F : Nat → Prop} {w : World} {v : Value} {xs : List Int} (h : Ints F w v xs) :
    ∃ (n : Nat) (a : Option Addr) (cap : Nat), v = .slice a n cap ∧ Hid (xs.length = n) ∧ n ≤ cap ∧ cap ≤ 9223372036854775807 ∧ Hid (a = none → n = 0 ∧ cap = 0) ∧
      (∀ k, k < n → ∃ b off, a = some ⟨b, off, none⟩ ∧ b < w.heap.size ∧ w.cell? ⟨b, off + k, none⟩ = some (.int .i64 (nth xs k))) := by
  obtain ⟨a, cap, rfl, _, h2, h3, h4, h5⟩ := h
  refine ⟨_, a, cap, rfl, rfl, h2, h3, h4, fun k hk => ?_⟩
  cases a with
  | none => have := (h4 rfl).1; omega
  | some ad =>
    obtain ⟨g0, g1, g2, g3⟩ := h5 ad rfl (by omega)
    obtain ⟨b, off, sp⟩ := ad
    simp only at g1
    subst g1
    exact ⟨b, off, rfl, g2, g3 k _ (iv_get hk)⟩

theorem Ints.shape {F : Nat → Prop} {w : World} {v : Value} {xs : List Int} (h : Ints F w v xs) {n : Nat} (hn : xs.length = n) : ∃ a c, v = .slice a n c := by
  obtain ⟨a, c, rfl, _⟩ := h
  exact ⟨a, c, by rw [hn]⟩
/-- a new array of numbers -/
theorem ints_lit (w : World) (xs : List Int) (T : TypeId) (n : Nat) (hn : xs.length = n) (hl : n ≤ 1000000) (w' : World) (hw : w'.heap[w.heap.size]? = some (.cells (iv xs).toArray T (0, 0))) :
    Ints (From w.heap.size) w' (.slice (some ⟨w.heap.size, 0, none⟩) n n) xs := by
  subst hn
  refine ⟨_, _, rfl, by simp, Nat.le_refl _, by omega, (fun e => by cases e), fun ad e _ => ?_⟩
  cases e
  refine ⟨Nat.le_refl _, rfl, lt_of_some hw, fun j u hj => ?_⟩
  simp only [World.cell?, hw, Nat.zero_add]
  simpa using hj
theorem ints_at {w : World} {xs : List Int} {T' : TypeId} {n g : Nat} (hn : xs.length = n) (hl : n ≤ 1000000) (hw : w.heap[g]? = some (.cells (iv xs).toArray T' (0, 0))) :
    Ints T w (.slice (some ⟨g, 0, none⟩) n n) xs := by
  subst hn
  refine ⟨_, _, rfl, by simp, Nat.le_refl _, by omega, (fun e => by cases e), fun ad e _ => ?_⟩
  cases e
  refine ⟨trivial, rfl, lt_of_some hw, fun j u hj => ?_⟩
  simp only [World.cell?, hw, Nat.zero_add]
  simpa using hj
/-- a piece of a slice -/
theorem Sl.cut {F : Nat → Prop} {w : World} {a : Option Addr} {n cap : Nat} {cs : List Value} (h : Sl F w (.slice a n cap) n 1 cs) {k m : Nat} (hk : k + m ≤ n) (hlt : ¬ cap = k) :
    Sl F w (.slice (Option.map (fun x => x.add k) a) m (cap - k)) m 1 ((cs.drop k).take m) := by
  obtain ⟨a', c, e, h1, h2, h3, h4, h5⟩ := h
  cases e
  refine ⟨_, _, rfl, by simp; omega, by omega, by omega, fun e => ?_, fun ad e hp => ?_⟩
  · cases a with
    | none => have := h4 rfl; omega
    | some ad => cases e
  · cases a with
    | none => cases e
    | some ad0 =>
      obtain ⟨g0, g1, g2, g3⟩ := h5 ad0 rfl (by omega)
      obtain ⟨b, off, sp⟩ := ad0
      simp only at g1
      subst g1
      have e' : (⟨b, off, none⟩ : Addr).add k = ⟨b, off + k, none⟩ := by
        unfold Addr.add; split
        · rename_i h; subst h; rfl
        · rfl
      simp only [Option.map_some, e'] at e
      cases e
      refine ⟨g0, rfl, g2, fun j u hj => ?_⟩
      rw [List.getElem?_take] at hj
      split at hj
      · rw [List.getElem?_drop] at hj
        have := g3 (k + j) u hj
        simpa [Nat.add_assoc] using this
      · cases hj
theorem iv_cut (xs : List Int) (k m : Nat) : iv ((xs.drop k).take m) = ((iv xs).drop k).take m := by simp [iv, List.map_take, List.map_drop]
/-- the begin of a slice -/
theorem Sl.take {F : Nat → Prop} {w : World} {a : Option Addr} {n cap size : Nat} {cs : List Value} (h : Sl F w (.slice a n cap) n size cs) {m : Nat} (hm : m ≤ n) : Sl F w (.slice a m cap) m size (cs.take (m * size)) := by
  obtain ⟨a', c, e, h1, h2, h3, h4, h5⟩ := h
  cases e
  refine ⟨_, _, rfl, ?_, by omega, h3, fun e => ?_, fun ad e hp => ?_⟩
  · rw [List.length_take, h1]
    exact Nat.min_eq_left (Nat.mul_le_mul_right _ hm)
  · have := h4 e; omega
  · obtain ⟨g0, g1, g2, g3⟩ := h5 ad e (by omega)
    refine ⟨g0, g1, g2, fun j u hj => ?_⟩
    rw [List.getElem?_take] at hj
    split at hj
    · exact g3 j u hj
    · cases hj
theorem Ints.take {F : Nat → Prop} {w : World} {a : Option Addr} {n cap : Nat} {xs : List Int} (h : Ints F w (.slice a n cap) xs) (hn : xs.length = n) {m : Nat} (hm : m ≤ n) : Ints F w (.slice a m cap) (xs.take m) := by
  subst hn
  have := Sl.take h hm
  unfold Ints
  rw [List.length_take, Nat.min_eq_left hm]
  rw [Nat.mul_one] at this
  simpa [iv, List.map_take] using this
theorem Ints.cut {F : Nat → Prop} {w : World} {a : Option Addr} {n cap : Nat} {xs : List Int} (h : Ints F w (.slice a n cap) xs) (hn : xs.length = n) {k m : Nat} (hk : k + m ≤ n) (hlt : ¬ cap = k) :
    Ints F w (.slice (Option.map (fun x => x.add k) a) m (cap - k)) ((xs.drop k).take m) := by
  subst hn
  have := Sl.cut h hk hlt
  unfold Ints
  rw [List.length_take, List.length_drop, Nat.min_eq_left (by omega), iv_cut]
  exact this
/-- a piece that is empty -/
theorem Sl.cut_nil {F : Nat → Prop} {w : World} {a : Option Addr} {n cap c : Nat} {cs : List Value} (h : Sl F w (.slice a n cap) n 1 cs) (hc : a = none → c = 0) (hc' : c ≤ 9223372036854775807) : Sl F w (.slice a 0 c) 0 1 [] := by
  obtain ⟨a', c, e, h1, h2, h3, h4, h5⟩ := h
  cases e
  refine ⟨_, _, rfl, by simp, by omega, hc', fun e => ⟨rfl, hc e⟩, fun ad e hp => ?_⟩
  omega

theorem ret_int {k : IntKind} {a b : Int} (h : a = b) : Ending.returned (.int k a) = .returned (.int k b) := by rw [h]
theorem ret_bool {a b : Bool} (h : a = b) : Ending.returned (.bool a) = .returned (.bool b) := by rw [h]

end Go.Proofs.YtallmebpmoaopaaDoor
