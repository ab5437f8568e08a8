
/- Ma: the region of ref.OnBook that makes two maps and looks into them, in whatever order. -/
import Derived.Test.YtadmfokicjjglaaDoorX4
import Derived.Test.YtadmfokicjjglaaDoorA1
import Derived.Maps.Own
namespace Go.Proofs.YtadmfokicjjglaaDoor.E
open Go.RowKit Go.Proofs
set_option maxRecDepth 100000
set_option maxHeartbeats 1000000
set_option linter.unusedSimpArgs false
set_option linter.unusedVariables false
section
variable {P : Program} {ops : Array Oper}
theorem Rl.grow {B : Nat} {W0 : World} {nt : Nat} {ρ : Nat → Option Place} {ok : Nat → Prop} {st : St} {a : Act} {w w' : World} (R : Rl B W0 ρ ok nt st a w) (hb : Below w.heap.size w w') : Rl B W0 ρ ok nt st a w' ∧ ∀ U, Ext U ρ ρ ok ok w w' := by
  have hF : ∀ b, ok b → ok b ∧ w'.heap[b]? = w.heap[b]? := fun b h => ⟨h, hb.block b (R.heap.okb b h)⟩
  have hB : B ≤ w.heap.size := Nat.le_trans R.heap.base.le R.heap.below.size
  refine ⟨⟨⟨R.heap.below.trans (hb.mono hB), R.heap.base, fun b h => Nat.lt_of_lt_of_le (R.heap.okb b h) hb.size, R.heap.fresh, fun i e he => ?_, R.heap.inj⟩, fun k => (R.tmps k).mono (fun _ _ => rfl) hF, R.size, R.defers⟩, fun U => ⟨fun _ _ => rfl, fun _ _ => rfl, hF, fun b h => Or.inl h, hb.size⟩⟩
  refine R.heap.row_mono (fun _ _ => rfl) hF he fun b cap s hp => ?_
  rcases R.heap.row i e he with ⟨h1, -⟩ | ⟨b', cap', cur, h1, h2, h3, h4, -⟩
  · rw [hp] at h1; cases h1
  · rw [hp] at h1
    simp only [Option.some.injEq, Prod.mk.injEq] at h1
    obtain ⟨rfl, -, -⟩ := h1
    exact ⟨hb.block b (Array.getElem?_eq_some_iff.1 h4).1, h3⟩
end
/-! the two maps -/
end Go.Proofs.YtadmfokicjjglaaDoor.E
