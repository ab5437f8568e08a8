
/- RdA: what a row reads is what the engine reads: any plain data. -/
import Derived.Test.YtadmfokicjjglaaGreatDoorX3
import Derived.OpenShut
import Derived.ChangeArms
import Derived.DataReads
import Derived.WideShapes
namespace Go.Proofs.YtadmfokicjjglaaGreatDoor.E
open Go.RowKit Go.Proofs Go.ChangeShapes Go.WideShapes
inductive Sh where
 | num (k : IntKind)
 | boo
 | str
 | row (e : List Sh)
inductive Fits : Sh -> AV -> Prop
 | num (k : IntKind) (n : Int) : (Lit.int k n).wf = true -> Fits (.num k) (.at (.int k n))
 | boo (x : Bool) : Fits .boo (.at (.bool x))
 | str (x : ByteArray) : Fits .str (.at (.string x))
 | row {e : List Sh} {rows : List (List AV)} : (∀ r, r ∈ rows -> r.length = e.length) -> (∀ r, r ∈ rows -> ∀ (j : Nat) (s : Sh) (c : AV), e[j]? = some s -> r[j]? = some c -> Fits s c) -> Fits (.row e) (.lst false e.length rows)
def FitsL (sh : List Sh) (cells : List AV) : Prop := cells.length = sh.length /\ ∀ (j : Nat) (s : Sh) (c : AV), sh[j]? = some s -> cells[j]? = some c -> Fits s c
mutual
def shOf (P : Program) : Nat -> TypeId -> Option (List Sh)
 | 0, _ => none
 | n + 1, t => match P.underlying t with
  | some .bool => some [.boo]
  | some (.int k) => some [.num k]
  | some .string => some [.str]
  | some (.slice e) => match shOf P n e with
   | some sh => if P.cellsOf e = sh.length /\ 0 < sh.length then some [.row sh] else none
   | none => none
  | some (.struct fs) => match shFs P n 0 fs.toList with
   | some sh => if P.cellsOf t = sh.length then some sh else none
   | none => none
  | _ => none
def shFs (P : Program) : Nat -> Nat -> List Field -> Option (List Sh)
 | 0, _, _ => none
 | _ + 1, _, [] => some []
 | n + 1, o, f :: fs => match shOf P n f.type, f.offset == o with
  | some sh, true => if P.cellsOf f.type = sh.length then (shFs P n (o + sh.length) fs).map (sh ++ ·) else none
  | _, _ => none
end
section
variable {H : Type} {enc : TypeId × Value -> H} {P : Program} {W : World}
def RdOk (W : World) (sh : List Sh) (cs : List Value) (cells : List AV) : Prop :=
 cs.length = sh.length /\ FitsL sh cells /\ (∀ u, u ∈ cs -> u.oneCell' = true) /\ ∀ (j : Nat) (c : AV) (u : Value), cells[j]? = some c -> cs[j]? = some u -> PV (fun b => b < W.heap.size) W c u
theorem RdOk.nil : RdOk W [] [] [] := ⟨rfl, ⟨rfl, by simp⟩, by simp, by simp⟩
theorem RdOk.one {s : Sh} {v : Value} {c : AV} (hf : Fits s c) (ho : v.oneCell' = true) (hp : PV (fun b => b < W.heap.size) W c v) : RdOk W [s] [v] [c] := by
 refine ⟨rfl, ⟨rfl, fun j s' c' h1 h2 => ?_⟩, by simpa using ho, fun j c' u h1 h2 => ?_⟩
 ·cases j with
  | zero => cases h1; cases h2; exact hf
  | succ j => simp at h1
 ·cases j with
  | zero => cases h1; cases h2; exact hp
  | succ j => simp at h1
theorem RdOk.append {a b : List Sh} {cs ds : List Value} {x y : List AV} (h : RdOk W a cs x) (g : RdOk W b ds y) : RdOk W (a ++ b) (cs ++ ds) (x ++ y) := by
 obtain ⟨h1, ⟨h2, h3⟩, h4, h5⟩ := h;obtain ⟨g1, ⟨g2, g3⟩, g4, g5⟩ := g;refine ⟨by simp [h1, g1], ⟨by simp [h2, g2], fun j s c k1 k2 => ?_⟩, fun u hu => ?_, fun j c u k1 k2 => ?_⟩
 ·by_cases hj : j < a.length
  ·rw [List.getElem?_append_left hj] at k1;rw [List.getElem?_append_left (by omega)] at k2;exact h3 j s c k1 k2
  ·rw [List.getElem?_append_right (by omega)] at k1 k2;rw [h2] at k2;exact g3 _ s c k1 k2
 ·rcases List.mem_append.1 hu with q | q
  ·exact h4 u q
  ·exact g4 u q
 ·by_cases hj : j < a.length
  ·rw [List.getElem?_append_left (by omega)] at k1 k2;exact h5 j c u k1 k2
  ·rw [List.getElem?_append_right (by omega)] at k1 k2;rw [h1] at k2;rw [h2] at k1;exact g5 _ c u k1 k2
theorem spot_none {a : Addr} {v : Value} (h : W.cell? a = some v) : a.spot = none := by
 unfold World.cell? at h;split at h
 ·cases hs : a.spot with
  | none => rfl
  | some x => simp [hs] at h
 ·cases h
theorem add_none {a : Addr} (hs : a.spot = none) (m : Nat) : a.add m = ⟨a.block, a.off + m, none⟩ := by
 unfold Addr.add;split
 ·rename_i h; subst h; cases a; simp only at hs; subst hs; rfl
 ·rfl
theorem rows_shape {a : Addr} {c : Nat} {sh : List Sh} (hc : c = sh.length) (hpos : 0 < c) : ∀ (len : Nat), (∀ i, i < len -> ∃ cs cells, W.cells? 0 (a.add (i * c)) c = some cs /\ RdOk W sh cs cells) ->
  ∃ (rows : List (List AV)) (us : List Value), rows.length = len /\ us.length = len * c /\ rows.flatten.length = len * c /\ (∀ r, r ∈ rows -> FitsL sh r) /\ (∀ u, u ∈ us -> u.oneCell' = true) /\
   (0 < len -> a.spot = none /\ a.block < W.heap.size) /\ (∀ (j : Nat) (u : Value), us[j]? = some u -> W.cell? ⟨a.block, a.off + j, none⟩ = some u) /\ ∀ (j : Nat) (x : AV) (u : Value), rows.flatten[j]? = some x -> us[j]? = some u -> PV (fun b => b < W.heap.size) W x u
 | 0, _ => ⟨[], [], rfl, by simp, by simp, by simp, by simp, by simp, by simp, by simp⟩
 | len + 1, h => by
  obtain ⟨rows, us, h1, h2, h3, h4, h5, h6, h7, h8⟩ := rows_shape hc hpos len (fun i hi => h i (by omega));obtain ⟨cs, cells, k1, k2, ⟨k3, k4⟩, k5, k6⟩ := h len (by omega);obtain ⟨-, q2, q3⟩ := World.cells?_some k1
  have hsp : a.spot = none /\ a.block < W.heap.size := by
   by_cases hl : 0 < len
   ·exact h6 hl
   ·have : len = 0 := by omega
    subst this;have q := q3 0 hpos;have e : (a.add (0 * c)).add 0 = a := by simp [Addr.add]
    rw [e, List.getElem?_eq_getElem (by omega)] at q;exact ⟨spot_none q, World.block_lt_of_cell? (w := W) (a := a) q⟩
  refine ⟨rows ++ [cells], us ++ cs, by simp [h1], by simp [h2, q2, Nat.succ_mul], by simp [h3, k3, Nat.succ_mul, hc], fun r hr => ?_, fun u hu => ?_, fun _ => hsp, fun j u hu => ?_, fun j x u hx hu => ?_⟩
  ·rcases List.mem_append.1 hr with g | g
   ·exact h4 r g
   ·simp at g; subst g; exact ⟨k3, k4⟩
  ·rcases List.mem_append.1 hu with g | g
   ·exact h5 u g
   ·exact k5 u g
  ·by_cases hj : j < us.length
   ·rw [List.getElem?_append_left hj] at hu;exact h7 j u hu
   ·rw [List.getElem?_append_right (by omega)] at hu;have hlt : j - us.length < c := by have := (List.getElem?_eq_some_iff.1 hu).1; omega
    have q := q3 _ hlt;rw [hu, add_none hsp.1, add_none rfl] at q;rw [<- q];congr 2
    simp only;omega
  ·have e : (rows ++ [cells]).flatten = rows.flatten ++ cells := by simp
   rw [e] at hx;by_cases hj : j < us.length
   ·rw [List.getElem?_append_left hj] at hu;rw [List.getElem?_append_left (by omega)] at hx;exact h8 j x u hx hu
   ·rw [List.getElem?_append_right (by omega)] at hu hx;rw [h3] at hx;rw [h2] at hu;exact k6 _ x u hx hu
theorem fields_shape {cs : List Value} {n : Nat} (ih : ∀ (m : Nat) (t : TypeId) (cs : List Value) (x : DataW H × List MemPlace) (sh : List Sh), shOf P m t = some sh -> DataW.trod enc P W 0 (fun _ => true) true n t cs = some x -> ∃ cells, RdOk W sh cs cells) :
  ∀ (m : Nat) (fs : List Field) (o : Nat) (sh : List Sh), shFs P m o fs = some sh -> (∀ (i : Nat) (f : Field), fs[i]? = some f -> ∃ x, DataW.trod enc P W 0 (fun _ => true) true n f.type ((cs.drop f.offset).take (P.cellsOf f.type)) = some x) -> ∃ cells, RdOk W sh ((cs.drop o).take sh.length) cells
 | 0, _, _, _, h, _ => by simp [shFs] at h
 | m + 1, [], o, sh, h, _ => by
  simp [shFs] at h;subst h;exact ⟨[], by simpa using RdOk.nil⟩
 | m + 1, f :: fs, o, sh, h, hx => by
  unfold shFs at h;split at h
  ·rename_i s he ho;split at h
   ·rename_i hc;cases hr : shFs P m (o + s.length) fs with
    | none => rw [hr] at h; cases h
    | some s2 =>
     rw [hr] at h;simp only [Option.map_some, Option.some.injEq] at h;subst h;obtain ⟨x, hx0⟩ := hx 0 f rfl;have ho' : f.offset = o := by simpa using ho
     rw [ho', hc] at hx0;obtain ⟨c1, r1⟩ := ih m f.type _ x s he hx0;obtain ⟨c2, r2⟩ := fields_shape ih m fs _ s2 hr (fun i g hg => hx (i + 1) g (by simpa using hg));refine ⟨c1 ++ c2, ?_⟩
     have e : (cs.drop o).take (s ++ s2).length = (cs.drop o).take s.length ++ (cs.drop (o + s.length)).take s2.length := by
      rw [List.length_append, List.take_add, List.drop_drop]
     rw [e];exact r1.append r2
   ·cases h
  ·cases h
theorem trod_shape : ∀ (fuel : Nat) (m : Nat) (t : TypeId) (cs : List Value) (x : DataW H × List MemPlace) (sh : List Sh), shOf P m t = some sh -> DataW.trod enc P W 0 (fun _ => true) true fuel t cs = some x -> ∃ cells, RdOk W sh cs cells := by
 intro fuel
 induction fuel with
 | zero => intro m t cs x sh _ h; simp [DataW.trod] at h
 | succ n ih =>
  intro m t cs x sh hs h;cases m with
  | zero => simp [shOf] at hs
  | succ m =>
   unfold shOf at hs;split at hs
   ·rename_i ht;cases hs;obtain ⟨b, rfl, -⟩ := DataW.trod_bool ht h;exact ⟨_, .one (.boo b) rfl (.at rfl)⟩
   ·rename_i k ht;cases hs;obtain ⟨b, rfl, -, hwf⟩ := DataW.trod_int ht h;exact ⟨_, .one (.num k b hwf) rfl (.at rfl)⟩
   ·rename_i ht;cases hs;obtain ⟨b, rfl, -⟩ := DataW.trod_string ht h;exact ⟨_, .one (.str b) rfl (.at rfl)⟩
   ·rename_i e ht;split at hs
    ·rename_i s he;split at hs
     ·rename_i hc;cases hs;rcases DataW.trod_slice ht h with ⟨rfl, -⟩ | ⟨a, len, cap, elems, rest, n', hn', rfl, -, hb, hl, hm, hlen, hel, -, -⟩
      ·exact ⟨_, .one (.row (rows := []) (by simp) (by simp)) rfl (pv_nil _ _ _ _)⟩
      ·have hn2 : n' = n := by omega
       subst hn2
       obtain ⟨rows, us, h1, h2, h3, h4, h5, h6, h7, h8⟩ := rows_shape (W := W) (a := a) (c := s.length) (sh := s) rfl hc.2 len (fun i hi => by
        have hq := hel i hi;rw [hc.1] at hq;rw [List.getElem?_eq_getElem (by omega)] at hq;cases hcs : W.cells? 0 (a.add (i * s.length)) s.length with
        | none => rw [hcs] at hq; cases hq
        | some ci =>
         rw [hcs] at hq;obtain ⟨cells, hr⟩ := ih m e ci _ s he hq
         exact ⟨ci, cells, rfl, hr⟩)
       subst h1;refine ⟨_, .one (.row (rows := rows) (fun r hr => (h4 r hr).1) (fun r hr => (h4 r hr).2)) rfl ?_⟩
       exact .lst (us := us) (fun r hr => (h4 r hr).1) hl hm (fun e => by cases e) (by rw [h2, h3]) h5 (fun ad had hne => by
        cases had;have := h6 (by cases rows with | nil => exact absurd rfl hne | cons _ _ => simp)
        exact ⟨this.1, this.2, h7⟩) h8
     ·cases hs
    ·cases hs
   ·rename_i fs ht;split at hs
    ·rename_i s he;split at hs
     ·rename_i hc;cases hs;obtain ⟨xs, n', hn', -, hl, hxl, hf⟩ := DataW.trod_struct ht h;have hn2 : n' = n := by omega
      subst hn2
      obtain ⟨cells, hr⟩ := fields_shape (cs := cs) ih m fs.toList 0 sh he (fun i f hif => by
       rw [Array.getElem?_toList] at hif;have := hf i f hif;rw [List.getElem?_eq_getElem (by rw [hxl]; exact (Array.getElem?_eq_some_iff.1 hif).1)] at this
       exact ⟨_, this⟩)
      refine ⟨cells, ?_⟩
      have e : (cs.drop 0).take sh.length = cs := by
       rw [List.drop_zero, List.take_of_length_le (by omega)]
      rw [e] at hr;exact hr
     ·cases hs
    ·cases hs
   ·cases hs
end
end Go.Proofs.YtadmfokicjjglaaGreatDoor.E
