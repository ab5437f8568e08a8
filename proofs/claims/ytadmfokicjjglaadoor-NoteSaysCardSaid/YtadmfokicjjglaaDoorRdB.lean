
/- RdB: plain data that came in, as the engine reads them. -/
import Derived.Test.YtadmfokicjjglaaDoorRdA
import Derived.Test.YtadmfokicjjglaaDoorB1
import Derived.Test.YtadmfokicjjglaaDoorH1
namespace Go.Proofs.YtadmfokicjjglaaDoor.E
open Go.RowKit Go.Proofs Go.ChangeShapes Go.WideShapes
set_option maxRecDepth 100000
variable {H : Type} {enc : TypeId × Value → H} {P : Program} {W : World}
theorem Fits.v {s : Sh} {c : AV} {v : Value} {F : Nat → Prop} (hf : Fits s c) (hp : PV F W c v) : V 0 noPlace F W c v := by
  cases hf with
  | num k n _ => cases hp with | «at» h => exact .at h
  | boo x => cases hp with | «at» h => exact .at h
  | str x => cases hp with | «at» h => exact .at h
  | row _ _ => exact .lst (hp.mono fun b hb => ⟨⟨hb, fun e => by cases e⟩, rfl⟩)
theorem rd_agg {t : TypeId} {v : Value} {d : DataW H} {p : List MemPlace} {base : Nat} {fs : Array Field} {sh : List Sh} {m : Nat} (hs : P.underlying t = some (.struct fs)) (hsh : shOf P m t = some sh)
    (hw : Value.okWide P W .any base t v) (h : DataW.Trod enc P W 0 (fun _ => true) true t v d p) : ∃ cells, FitsL sh cells ∧ V 0 noPlace (fun b => b < W.heap.size) W (.agg cells) v := by
  obtain ⟨cs, rfl, hsz⟩ := okWide_struct hs hw
  obtain ⟨fuel, hf⟩ := h
  obtain ⟨cells, h1, h2, h3, h4⟩ := trod_shape fuel m t _ _ sh hsh hf
  refine ⟨cells, h2, ?_⟩
  have e : (Value.agg cs) = .agg (cs.toList).toArray := by simp
  rw [e]
  have hcl : (Value.agg cs).cells.toList = cs.toList := by simp [Value.cells]
  rw [hcl] at h1 h3 h4
  refine .agg (by rw [h2.1, h1]) h3 fun j c u hc hu => ?_
  obtain ⟨s, hs'⟩ : ∃ s, sh[j]? = some s := ⟨_, List.getElem?_eq_getElem (by rw [← h2.1]; exact (List.getElem?_eq_some_iff.1 hc).1)⟩
  exact (h2.2 j s c hs' hc).v (h4 j c u hc hu)
theorem FitsL.cons {s : Sh} {sh : List Sh} {cells : List AV} (h : FitsL (s :: sh) cells) : ∃ c cells', cells = c :: cells' ∧ Fits s c ∧ FitsL sh cells' := by
  obtain ⟨h1, h2⟩ := h
  cases cells with
  | nil => simp at h1
  | cons c cells => exact ⟨c, cells, rfl, h2 0 s c rfl rfl, by simpa using h1, fun j s' c' a b => h2 (j + 1) s' c' (by simpa using a) (by simpa using b)⟩
theorem FitsL.nil {cells : List AV} (h : FitsL [] cells) : cells = [] := List.eq_nil_of_length_eq_zero (by simpa using h.1)
theorem Fits.int {k : IntKind} {c : AV} (h : Fits (.num k) c) : ∃ n, c = .at (.int k n) := by cases h; exact ⟨_, rfl⟩
theorem Fits.bool {c : AV} (h : Fits .boo c) : ∃ n, c = .at (.bool n) := by cases h; exact ⟨_, rfl⟩
theorem map_of {α β : Type} {f : α → β} : ∀ {ys : List β}, (∀ y, y ∈ ys → ∃ x, y = f x) → ∃ xs, ys = List.map f xs
  | [], _ => ⟨[], rfl⟩
  | y :: ys, h => by
    obtain ⟨x, rfl⟩ := h y (by simp)
    obtain ⟨xs, rfl⟩ := map_of (ys := ys) fun z hz => h z (by simp [hz])
    exact ⟨x :: xs, rfl⟩
theorem Fits.rows {α : Type} {en : α → List AV} {sh : List Sh} {c : AV} (h : Fits (.row sh) c) (g : ∀ r, FitsL sh r → ∃ x, r = en x) : ∃ xs : List α, c = .lst false sh.length (xs.map en) := by
  cases h with
  | row h1 h2 =>
    rename_i rows
    obtain ⟨xs, rfl⟩ := map_of (f := en) (ys := rows) fun r hr => g r ⟨h1 r hr, h2 r hr⟩
    exact ⟨xs, rfl⟩
theorem Fits.ints {c : AV} (h : Fits (.row [.num .i64]) c) : ∃ xs, c = .lst false 1 (I xs) :=
  h.rows (en := fun x => [AV.at (.int .i64 x)]) fun r hr => by
    obtain ⟨c, r', rfl, h1, h2⟩ := hr.cons
    obtain ⟨n, rfl⟩ := h1.int
    rw [h2.nil]
    exact ⟨n, rfl⟩
end Go.Proofs.YtadmfokicjjglaaDoor.E
