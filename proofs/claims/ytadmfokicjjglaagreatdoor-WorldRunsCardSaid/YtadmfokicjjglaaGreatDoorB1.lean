/- B1: Row: from a law's walk to what its row says: the arguments read as before, the result is true. Br: from what a row reads to what the engine reads; from a law's contract to its row. -/
import Derived.Test.YtadmfokicjjglaaGreatDoorBase
import Derived.OpenShut
import Derived.Lib.SmallJoins
import Derived.Carry
import Derived.Test.YtadmfokicjjglaaGreatDoorX3
namespace Go.Proofs.YtadmfokicjjglaaGreatDoor
open Go.RowKit Go.Proofs Go.ChangeShapes Go.WideShapes Go.ChangeAt Go.Joins Go.Deep Go.WideElems Go.Maps
variable {H : Type} {enc : TypeId × Value -> H} {P : Program}
theorem trodAll_below (hl : laidOutB P = true) {W W' : World} (hb : Below W.heap.size W W') : ∀ (ts : List TypeId) (vs : List Value) (ds : List (DataW H)) (ps : List MemPlace),
  (∀ t ∈ ts, P.readableRec t = true /\ t < P.types.size) -> DataW.TrodAll enc P W 0 (fun _ => true) true ts vs ds ps -> (∀ x ∈ ps, x.block < W.heap.size) ->
  DataW.TrodAll enc P W' 0 (fun b => decide (b < W.heap.size)) true ts vs ds ps
 | [], [], [], _, _, h, _ => h
 | t :: ts, v :: vs, d :: ds, _, ht, h, hp => by
  obtain ⟨p, q, h1, h2, rfl⟩ := h;have a := ht t (by simp);exact ⟨p, q, Below.trod hl a.1 a.2 h1 hb (fun x hx => hp x (by simp [hx])), trodAll_below hl hb ts vs ds q (fun t' h' => ht t' (by simp [h'])) h2 (fun x hx => hp x (by simp [hx])), rfl⟩
 | [], [], _ :: _, _, _, h, _ => h.elim
 | [], _ :: _, _, _, _, h, _ => by cases h
 | _ :: _, [], _, _, _, h, _ => by cases h
 | _ :: _, _ :: _, [], _, _, h, _ => h.elim
theorem law_post {f : Func} {s : ChangeSpec} {W W' : World} {args : Array Value} {ds : List (DataW H)} {before : List MemPlace} {tb : TypeId}
  (hW : DataW.Whole enc P f.params.toList s.vars false W args.toList ds [] before) (hv : s.vars = [])
  (hs : s.fn H (ds ++ []) = { results := [.lit (.bool true)], args := ds }) (hres : f.resultTypes = #[tb]) (htb : P.underlying tb = some .bool)
  (hl : laidOutB P = true) (hts : ∀ t ∈ f.params.toList, P.readableRec t = true /\ t < P.types.size) (hb : Below W.heap.size W W') :
  s.post enc P f false true false false W args (.bool true) W' := by
 have hlt := hW.lt;obtain ⟨p, q, hA, hV, rfl, hz, hn⟩ := hW;have hW2 : DataW.Whole enc P f.params.toList s.vars false W args.toList ds [] (p ++ q) := ⟨p, q, hA, hV, rfl, hz, hn⟩;have hq : q = [] := by rw [hv] at hV; exact hV
 subst hq;have e : (s.fn H (ds ++ [])).vars = [] := by rw [hs]
 refine ⟨ds, [], p ++ [], [], p, [], hW2, ?_, ?_, ?_, ?_, fun h => by cases h⟩
 ·rw [hs, hres];exact trodAll_cons_mk (shut_bool htb _) trodAll_mk0
 ·rw [hs];exact trodAll_below hl hb _ _ _ _ hts hA (fun x hx => hlt x (by simp [hx]))
 ·rw [hv, e]; exact rfl
 ·exact hb.frame _
end Go.Proofs.YtadmfokicjjglaaGreatDoor
namespace Go.Proofs.YtadmfokicjjglaaGreatDoor.E
open Go.RowKit Go.Proofs
theorem C.law {P : Program} {f : FuncId} {args : List AV} {vs : List Value} {W : World} (h : C P f args (.at (.bool true)) []) (hG : Glob W.heap.size W) (hv : VL 0 noPlace (fun b => b < W.heap.size) W args vs) :
  Calls P f vs.toArray W fun e W' => e = .returned (.bool true) /\ Below W.heap.size W W' := by
 refine (h.2.2.2 _ W vs (fun b hb => hb) hG hv).mono ?_;rintro e w' ⟨v, ρ, ok, rfl, H, hr, -⟩;cases hr;exact ⟨rfl, H.below⟩
theorem VL.nil {W : World} {F : Nat -> Prop} : VL 0 noPlace F W [] [] := ⟨rfl, by simp⟩
theorem VL.cons {W : World} {F : Nat -> Prop} {a : AV} {v : Value} {l : List AV} {vs : List Value} (h : V 0 noPlace F W a v) (g : VL 0 noPlace F W l vs) : VL 0 noPlace F W (a :: l) (v :: vs) := by
 refine ⟨by simp [g.1], fun j c u hc hu => ?_⟩;cases j with
 | zero => cases hc; cases hu; exact h
 | succ j => exact g.2 j c u (by simpa using hc) (by simpa using hu)
end Go.Proofs.YtadmfokicjjglaaGreatDoor.E
