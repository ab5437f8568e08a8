/- BrB: a book that came in. -/
import Derived.Test.YtdjdjnmccphbjaaBr
import Derived.Test.YtdjdjnmccphbjaaLd
namespace Go.Proofs.Ytdjdjnmccphbjaa.E
open Go.RowKit Go.Proofs Go.ChangeShapes Go.WideShapes Go.ChangeAt Go.Joins Go.Deep Go.WideElems Go.Maps
variable {H : Type} {enc : TypeId × Value → H} {P : Program}

theorem in_book {W : World} {t ts ti : TypeId} {f0 f1 f2 : Field} {v : Value} {d : DataW H} {p : List MemPlace} {base : Nat} (hs : P.underlying t = some (.struct #[f0, f1, f2])) (hone : oneCellFields P #[f0, f1, f2] = true) (hC : P.cellsOf t = 3)
    (e0 : f0.type = ts) (e1 : f1.type = ti) (e2 : f2.type = ti) (hi : P.underlying ti = some (.int .i64)) (ht : P.underlying ts = some (.slice ti)) (hc : P.cellsOf ti = 1)
    (hw : Value.okWide P W .any base t v) (h : DataW.Trod enc P W 0 (fun _ => true) true t v d p) : ∃ b : S.Book, V 0 noPlace (fun b => b < W.heap.size) W (Bk b) v := by
  obtain ⟨v0, v1, v2, y0, y1, y2, n, rfl, rfl, rfl, h0, h1, h2⟩ := open_agg3 hs hone hC hw h
  rw [e0] at h0
  rw [e1] at h1
  rw [e2] at h2
  obtain ⟨a, g0, -, -⟩ := DataW.trod_int hi h1
  obtain ⟨c, g2, -, -⟩ := DataW.trod_int hi h2
  simp at g0 g2
  subst g0 g2
  obtain ⟨xs, hx⟩ := in_ints ht hi hc h0
  refine ⟨⟨xs, a, c⟩, ?_⟩
  have hv := ints_V hx
  have ho : v0.oneCell' = true := by
    obtain ⟨a, c, rfl, _⟩ := hx
    rfl
  refine V.agg (vs := [v0, .int .i64 a, .int .i64 c]) rfl (by simp [ho]; exact ⟨rfl, rfl⟩) (fun j x u hj hu => ?_)
  match j with
  | 0 => cases hj; cases hu; exact hv
  | 1 => cases hj; cases hu; exact .at rfl
  | 2 => cases hj; cases hu; exact .at rfl
  | j + 3 => simp at hj

end Go.Proofs.Ytdjdjnmccphbjaa.E
