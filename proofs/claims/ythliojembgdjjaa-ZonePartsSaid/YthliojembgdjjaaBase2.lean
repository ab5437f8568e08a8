/- Base2: more on slices. -/
import Derived.Test.YthliojembgdjjaaBase
namespace Go.Proofs.Ythliojembgdjjaa
open Go.RowKit

/-- the rest of a slice -/
theorem Ints.tail {F : Nat → Prop} {w : World} {b off n cap : Nat} {xs : List Int} (h : Ints F w (.slice (some ⟨b, off, none⟩) n cap) xs) (hn : xs.length = n) {k : Nat} (hk : k ≤ n) (hlt : ¬ cap = k) :
    Ints F w (.slice (some ⟨b, off + k, none⟩) (n - k) (cap - k)) (xs.drop k) := by
  have e := h.cut hn (k := k) (m := n - k) (by omega) hlt
  have e' : (⟨b, off, none⟩ : Addr).add k = ⟨b, off + k, none⟩ := by
    unfold Addr.add; split
    · rename_i h; subst h; rfl
    · rfl
  rw [Option.map_some, e', List.take_of_length_le (by rw [List.length_drop]; omega)] at e
  exact e

end Go.Proofs.Ythliojembgdjjaa
