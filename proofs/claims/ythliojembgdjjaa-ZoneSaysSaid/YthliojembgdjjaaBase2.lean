/- Base2: more on slices. -/
import Derived.Test.YthliojembgdjjaaBase
import Derived.Laws.AppendOwnNone
namespace Go.Proofs.Ythliojembgdjjaa
open Go.RowKit

/-- the rest of a slice -/
theorem Ints.tail {F : Nat → Prop} {w : World} {b off n cap : Nat} {xs : List Int} (h : Ints F w (.slice (some ⟨b, off, none⟩) n cap) xs) (hn : xs.length = n) {k : Nat} (hk : k ≤ n) (hlt : ¬ cap = k) :
    Ints F w (.slice (some ⟨b, off + k, none⟩) (n - k) (cap - k)) (xs.drop k) := by
  have e := h.cut hn (k := k) (m := n - k) (by omega) hlt
  have e' : (⟨b, off, none⟩ : Addr).add k = ⟨b, off + k, none⟩ := by
    unfold Addr.add; split
    · rename_i h; subst h; rfl
    · rfl
  rw [Option.map_some, e', List.take_of_length_le (by rw [List.length_drop]; omega)] at e
  exact e

theorem Sl.newsAt {F : Nat → Prop} {w : World} {ad : Addr} {n cap size : Nat} {cs : List Value} (h : Sl F w (.slice (Option.some ad) n cap) n size cs) :
    ∀ j u, cs[j]? = Option.some u → w.cell? (ad.add j) = Option.some u := by
  intro j u hj
  have hp : 0 < n := by
    obtain ⟨a, c, e, h1, _⟩ := h
    have := (List.getElem?_eq_some_iff.1 hj).1
    rcases Nat.eq_zero_or_pos n with h0 | h0
    · subst h0; simp at h1; subst h1; simp at this
    · exact h0
  obtain ⟨b, off, e, -, -, -⟩ := h.some hp
  cases e
  exact h.news j u hj

/-- an append of whatever can be read onto a row of one's own -/
theorem wpList_append_src {P : Program} {w : World} {ops : Array Oper} {rest : List Oper} {o : Oper} {a : Act} {Q : Exit → Act → World → Prop} (hgd : o.guard = none) (s x : Operand) (t : TypeId)
    (ho : o.op = .call { callee := .builtin .append, args := #[s, x], argTypes := #[t, t] })
    (base : Nat) (e : TypeId) (i : TypeInfo) (z : Value) (size bytes : Nat) (ht : P.underlying t = some (.slice e)) (hi : P.info? e = some i) (hz : i.zero = some z)
    (hsize : i.size = size) (hby : i.bytes = bytes) (hzs : z.cells.size = size) (hsz : 0 < size)
    (v : Value) (n : Nat) (xs : List Value) (hs : a.eval s = v) (hown : w.ownsRow base e size v n xs)
    (src : Option Addr) (m c : Nat) (news : List Value) (hx : a.eval x = .slice src m c) (F : Nat → Prop) (hS : Sl F w (.slice src m c) m size news) (h1 : ∀ u ∈ news, u.oneCell' = true)
    (h63 : n + m ≤ maxLen) (hbytes : (n + m) * bytes ≤ 140737488355328) (hbase : base ≤ w.heap.size)
    (h : ∀ v' w', w'.ownsRow base e size v' (n + m) (xs ++ news) → Below base w w' → wpList P ops Q rest (a.put o.dst v') w') : wpList P ops Q (o :: rest) a w := by
  have hl : news.length = m * size := by obtain ⟨_, _, _, h1, _⟩ := hS; exact h1
  cases src with
  | none =>
    have hm : m = 0 ∧ c = 0 := by
      obtain ⟨a', c', e', _, _, _, h4, _⟩ := hS
      cases e'
      exact h4 rfl
    obtain ⟨rfl, rfl⟩ := hm
    have hn : news = [] := by cases news with | nil => rfl | cons _ _ => simp at hl
    subst hn
    refine wpList_append_own_none hgd s x t ho base e i size ht hi v n xs hs hown hx ?_
    exact h _ _ (by simpa using hown) (Below.refl _ _)
  | some ad =>
    refine wpList_append_own w hgd s x t ho base e i z size bytes ht hi hz hsize hby hzs hsz v n xs hs hown ad m c news hx hl hS.newsAt h1 h63 hbytes hbase ?_
    intro v' w' g1 g2 _
    exact h v' w' g1 (below_append hown g2 hbase)

theorem free_alloc {w : World} {b o : Nat} {v : Value} (h : w.cell? ⟨b, o, none⟩ = some v) (hf : w.frozen? ⟨b, o, none⟩ = false) (x : Obj) : (w.alloc x).frozen? ⟨b, o, none⟩ = false := by
  rw [((Below.refl _ w).alloc (Nat.le_refl _) x).frozen (p := ⟨b, o, none⟩) (World.block_lt_of_cell? (w := w) (a := ⟨b, o, none⟩) h)]; exact hf

end Go.Proofs.Ythliojembgdjjaa
