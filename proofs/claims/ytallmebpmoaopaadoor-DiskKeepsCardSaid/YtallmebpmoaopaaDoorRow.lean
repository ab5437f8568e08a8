
/- Row: from a law's walk to what its row says: the arguments read as before, the result is true. -/
import Derived.Test.YtallmebpmoaopaaDoorBase
import Derived.OpenShut
import Derived.Lib.SmallJoins
import Derived.Carry
namespace Go.Proofs.YtallmebpmoaopaaDoor
open Go.RowKit Go.Proofs Go.ChangeShapes Go.WideShapes Go.ChangeAt Go.Joins Go.Deep Go.WideElems Go.Maps

variable {H : Type} {enc : TypeId × Value → H} {P : Program}

theorem trodAll_below (hl : laidOutB P = true) {W W' : World} (hb : Below W.heap.size W W') : ∀ (ts : List TypeId) (vs : List Value) (ds : List (DataW H)) (ps : List MemPlace),
    (∀ t ∈ ts, P.readableRec t = true ∧ t < P.types.size) → DataW.TrodAll enc P W 0 (fun _ => true) true ts vs ds ps → (∀ x ∈ ps, x.block < W.heap.size) →
    DataW.TrodAll enc P W' 0 (fun b => decide (b < W.heap.size)) true ts vs ds ps
  | [], [], [], _, _, h, _ => h
  | t :: ts, v :: vs, d :: ds, _, ht, h, hp => by
    obtain ⟨p, q, h1, h2, rfl⟩ := h
    have a := ht t (by simp)
    exact ⟨p, q, Below.trod hl a.1 a.2 h1 hb (fun x hx => hp x (by simp [hx])), trodAll_below hl hb ts vs ds q (fun t' h' => ht t' (by simp [h'])) h2 (fun x hx => hp x (by simp [hx])), rfl⟩
  | [], [], _ :: _, _, _, h, _ => h.elim
  | [], _ :: _, _, _, _, h, _ => by cases h
  | _ :: _, [], _, _, _, h, _ => by cases h
  | _ :: _, _ :: _, [], _, _, h, _ => h.elim

/-- what a law's walk owes its row: it returned true, and nothing that was there has turned -/
theorem law_post {f : Func} {s : ChangeSpec} {W W' : World} {args : Array Value} {ds : List (DataW H)} {before : List MemPlace} {tb : TypeId}
    (hW : DataW.Whole enc P f.params.toList s.vars false W args.toList ds [] before) (hv : s.vars = [])
    (hs : s.fn H (ds ++ []) = { results := [.lit (.bool true)], args := ds }) (hres : f.resultTypes = #[tb]) (htb : P.underlying tb = some .bool)
    (hl : laidOutB P = true) (hts : ∀ t ∈ f.params.toList, P.readableRec t = true ∧ t < P.types.size) (hb : Below W.heap.size W W') :
    s.post enc P f false true false false W args (.bool true) W' := by
  have hlt := hW.lt
  obtain ⟨p, q, hA, hV, rfl, hz, hn⟩ := hW
  have hW2 : DataW.Whole enc P f.params.toList s.vars false W args.toList ds [] (p ++ q) := ⟨p, q, hA, hV, rfl, hz, hn⟩
  have hq : q = [] := by rw [hv] at hV; exact hV
  subst hq
  have e : (s.fn H (ds ++ [])).vars = [] := by rw [hs]
  refine ⟨ds, [], p ++ [], [], p, [], hW2, ?_, ?_, ?_, ?_, fun h => by cases h⟩
  · rw [hs, hres]
    exact trodAll_cons_mk (shut_bool htb _) trodAll_mk0
  · rw [hs]
    exact trodAll_below hl hb _ _ _ _ hts hA (fun x hx => hlt x (by simp [hx]))
  · rw [hv, e]; exact rfl
  · exact hb.frame _

/-- a slice of numbers that came in -/
theorem in_ints {W : World} {t e : TypeId} {v : Value} {x : DataW H × List MemPlace} {fuel : Nat} (ht : P.underlying t = some (.slice e)) (he : P.underlying e = some (.int .i64)) (hc : P.cellsOf e = 1)
    (hf : DataW.trod enc P W 0 (fun _ => true) true fuel t [v] = some x) : ∃ xs, Ints T W v xs := by
  rcases open_ints ht he hc hf with ⟨hcs, hx⟩ | ⟨a, len, cap, zs, hcs, _, hl, hm, hz, hx, hcell, hwz⟩
  · simp at hcs
    subst hcs
    exact ⟨[], Ints.nil _ _⟩
  · simp at hcs
    subst hcs
    simp at hz
    have hlen : (zs.take len).length = len := by rw [List.length_take]; omega
    refine ⟨zs.take len, some a, cap, by rw [hlen], by simp [hlen], by rw [hlen]; exact hl, by simpa [maxLen] using hm, (fun e => by cases e), fun ad e hp => ?_⟩
    cases e
    rw [hlen] at hp
    have h0 := hcell 0 (by omega)
    have hadd0 : a.add 0 = a := by simp [Addr.add]
    rw [hadd0] at h0
    have hsp : a.spot = none := by
      unfold World.cell? at h0
      split at h0
      · cases hs : a.spot with
        | none => rfl
        | some x => simp [hs] at h0
      · cases h0
    refine ⟨trivial, hsp, World.block_lt_of_cell? (w := W) (a := a) h0, fun j u hj => ?_⟩
    have hjl : j < len := by
      have := (List.getElem?_eq_some_iff.1 hj).1
      rw [iv_length, hlen] at this
      exact this
    have hc := hcell j (by omega)
    have e : a.add j = ⟨a.block, a.off + j, none⟩ := by
      unfold Addr.add; split
      · rename_i h; subst h; cases a; simp only at hsp; subst hsp; rfl
      · rfl
    rw [e] at hc
    rw [hc]
    have e2 := iv_get (xs := zs.take len) (k := j) (by rw [hlen]; exact hjl)
    rw [e2] at hj
    rw [← hj, nth]
    simp [List.getD, hjl]

/-- a zone that came in -/
theorem in_zone {W : World} {t ts ti : TypeId} {f0 f1 : Field} {v : Value} {d : DataW H} {p : List MemPlace} {base : Nat} (hs : P.underlying t = some (.struct #[f0, f1])) (hone : oneCellFields P #[f0, f1] = true) (hC : P.cellsOf t = 2)
    (e0 : f0.type = ti) (e1 : f1.type = ts) (hi : P.underlying ti = some (.int .i64)) (ht : P.underlying ts = some (.slice ti)) (hc : P.cellsOf ti = 1)
    (hw : Value.okWide P W .any base t v) (h : DataW.Trod enc P W 0 (fun _ => true) true t v d p) : ∃ (n : Int) (s : Value) (xs : List Int), v = .agg #[.int .i64 n, s] ∧ Ints T W s xs := by
  obtain ⟨v0, v1, y0, y1, n, rfl, rfl, rfl, h0, h1⟩ := open_agg2 hs hone hC hw h
  rw [e0] at h0
  rw [e1] at h1
  obtain ⟨a, g0, -, -⟩ := DataW.trod_int hi h0
  simp at g0
  subst g0
  obtain ⟨xs, hx⟩ := in_ints ht hi hc h1
  exact ⟨a, v1, xs, rfl, hx⟩

end Go.Proofs.YtallmebpmoaopaaDoor
