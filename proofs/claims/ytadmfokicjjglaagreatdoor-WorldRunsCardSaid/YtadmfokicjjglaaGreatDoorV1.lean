/- V1: Va: the library's functions on texts, as the engine calls them. Vb: the words of the kinds; the place of a word; cmd.Print. Vc: cmd.Print. -/
import Derived.Test.YtadmfokicjjglaaGreatDoorEa
import Derived.Test.YtadmfokicjjglaaGreatDoorX4
import Derived.Test.YtadmfokicjjglaaGreatDoorBase
import Derived.Test.YtadmfokicjjglaaGreatDoorShelf
import Derived.Lib.ParseIntBTie
import Derived.Lib.AppendIntMem
import Derived.Test.YtadmfokicjjglaaGreatDoorHd
import Derived.Test.YtadmfokicjjglaaGreatDoorSq
import Derived.Test.YtadmfokicjjglaaGreatDoorX3
namespace Go.Proofs.YtadmfokicjjglaaGreatDoor.E
open Go.RowKit Go.Proofs
set_option linter.unusedVariables false
set_option linter.unusedSimpArgs false
set_option maxRecDepth 100000
abbrev Tx (l : List UInt8) : AV := .at (.string ⟨l.toArray⟩)
def Txs (ls : List (List UInt8)) : List (List AV) := ls.map fun l => [Tx l]
@[simp] theorem Txs_length (ls : List (List UInt8)) : (Txs ls).length = ls.length := by simp [Txs]
@[simp] theorem Txs_get (ls : List (List UInt8)) (k : Nat) : (Txs ls)[k]? = (ls[k]?).map fun l => [Tx l] := by simp [Txs]
@[simp] theorem tx_size (l : List UInt8) : (⟨l.toArray⟩ : ByteArray).size = l.length := by simp [ByteArray.size]
theorem C_lib {f : FuncId} {args : List AV} {r : AV} (hc : Callable Tryz.prog f) (hr : resV r = true)
  (h : ∀ (F : Nat -> Prop) (w : World) (vs : List Value), Glob w.heap.size w -> VL 0 noPlace F w args vs -> Calls Tryz.prog f vs.toArray w fun e w' => ∃ v, e = .returned v /\ Below w.heap.size w w' /\ V w.heap.size noPlace (fun b => w.heap.size <= b /\ b < w'.heap.size) w' r v) :
  C Tryz.prog f args r [] := by
 refine ⟨hc, hr, rfl, fun F w vs hF hG hv => (h F w vs hG hv).mono ?_⟩;rintro e w' ⟨v, rfl, hb, hv'⟩;refine ⟨v, noPlace, fun b => F b \/ (w.heap.size <= b /\ b < w'.heap.size), rfl, ⟨hb, ⟨Nat.le_refl _, hG⟩, fun b hbk => ?_, fun _ _ => rfl, fun i e he => by simp [heapOf] at he, fun i j e e' b c s c' s' h1 => by simp [heapOf] at h1⟩, hv'.mono (fun _ _ => rfl) (fun b hbk => ⟨Or.inr hbk, rfl⟩), fun b hbk => ?_⟩
 ·rcases hbk with g | g
  ·exact Nat.lt_of_lt_of_le (hF b g) hb.size
  ·exact g.2
 ·rcases hbk with g | g
  ·exact Or.inl g
  ·exact Or.inr g.1
theorem VL.one {F : Nat -> Prop} {w : World} {a : AV} {vs : List Value} (h : VL 0 noPlace F w [a] vs) : ∃ u, vs = [u] /\ V 0 noPlace F w a u := by
 obtain ⟨h1, h2⟩ := h
 match vs, h1, h2 with
 | [u], _, h2 => exact ⟨u, rfl, h2 0 _ _ rfl rfl⟩
theorem VL.two {F : Nat -> Prop} {w : World} {a b : AV} {vs : List Value} (h : VL 0 noPlace F w [a, b] vs) : ∃ u v, vs = [u, v] /\ V 0 noPlace F w a u /\ V 0 noPlace F w b v := by
 obtain ⟨h1, h2⟩ := h
 match vs, h1, h2 with
 | [u, v], _, h2 => exact ⟨u, v, rfl, h2 0 _ _ rfl rfl, h2 1 _ _ rfl rfl⟩
theorem VL.three {F : Nat -> Prop} {w : World} {a b c : AV} {vs : List Value} (h : VL 0 noPlace F w [a, b, c] vs) : ∃ u v x, vs = [u, v, x] /\ V 0 noPlace F w a u /\ V 0 noPlace F w b v /\ V 0 noPlace F w c x := by
 obtain ⟨h1, h2⟩ := h
 match vs, h1, h2 with
 | [u, v, x], _, h2 => exact ⟨u, v, x, rfl, h2 0 _ _ rfl rfl, h2 1 _ _ rfl rfl, h2 2 _ _ rfl rfl⟩
theorem below_drewN' (w : World) (n : Nat) : Below w.heap.size w (w.drewN n) := ⟨rfl, rfl, rfl, Nat.le_refl _, fun _ _ => rfl⟩
theorem below_grow' (w : World) (k : Nat) (os : Array Obj) : Below w.heap.size w (Go.Sort.grow (w.drewN k) os) := Lib.below_grow w.heap.size w (Nat.le_refl _) k os
theorem below_bytes {w w' : World} (h : w' = w \/ ∃ t, w' = Lib.bytesWorld w 5 t) : Below w.heap.size w w' := by
 rcases h with rfl | ⟨t, rfl⟩
 ·exact Below.refl _ _
 ·exact Lib.bytesWorld_below _ _ _
theorem glob_pow {w : World} (h : Glob w.heap.size w) : Lib.TabIs Tryz.prog w "internal/strconv.uint64pow10" .u64 Lib.pow10Tab := (h.pow10 1 (by kernel_rfl)).2
theorem glob_max {w : World} (h : Glob w.heap.size w) : ∃ m, w.cell? ⟨0, 0, none⟩ = some (.int .i64 m) := (h.maxLen 0 (by kernel_rfl)).2
theorem glob_syn {w : World} (h : Glob w.heap.size w) : ∃ ev, w.cell? ⟨2, 0, none⟩ = some ev /\ (ev = .nilIface \/ ∃ te pe, ev = .iface te pe) := (h.errSyntax 2 (by kernel_rfl)).2
theorem glob_rng {w : World} (h : Glob w.heap.size w) : ∃ ev, w.cell? ⟨3, 0, none⟩ = some ev /\ (ev = .nilIface \/ ∃ te pe, ev = .iface te pe) := (h.errRange 3 (by kernel_rfl)).2
theorem strconv_Itoa (n : Int) (h0 : -9223372036854775808 <= n) (h1 : n <= 9223372036854775807) : C Tryz.prog 102 [Int' n] (Tx (Lib.itoa n)) [] := by
 refine C_lib (fun _ _ => by kernel_rfl) rfl fun F w vs hG hv => ?_
 obtain ⟨u, rfl, hu⟩ := hv.one;cases V_at hu;refine (Tryz.strconv_Itoa n h0 h1 w (glob_pow hG)).mono ?_;rintro e w' ⟨rfl, k, os, rfl⟩;exact ⟨_, rfl, below_grow' w k os, .at rfl⟩
theorem strconv_FormatInt (n : Int) (h0 : -9223372036854775808 <= n) (h1 : n <= 9223372036854775807) : C Tryz.prog 178 [Int' n, Int' 10] (Tx (Lib.itoa n)) [] := by
 refine C_lib (fun _ _ => by kernel_rfl) rfl fun F w vs hG hv => ?_
 obtain ⟨u, v, rfl, hu, hq⟩ := hv.two;cases V_at hu; cases V_at hq
 refine (Tryz.strconv_FormatInt_10 n h0 h1 w (glob_pow hG)).mono ?_;rintro e w' ⟨rfl, k, os, rfl⟩;exact ⟨_, rfl, below_grow' w k os, .at rfl⟩
def numR (l : List UInt8) : AV := match Lib.atoiAll l with
 | .ok v => .tup [Int' v, .at .nilIface]
 | Lib.NumEnd.syntax => .tup [Int' 0, .err]
 | .range => .tup [Int' (Lib.atoiSat l), .err]
theorem numR_res (l : List UInt8) : resV (numR l) = true := by unfold numR; split <;> rfl
theorem V_tup2 {B : Nat} {ρ : Nat -> Option Place} {ok : Nat -> Prop} {w : World} {a b : AV} {u v : Value} (h1 : V B ρ ok w a u) (h2 : V B ρ ok w b v) : V B ρ ok w (.tup [a, b]) (.tuple #[u, v]) := by
 refine V.tup (l := [a, b]) (vs := [u, v]) rfl fun j c x hc hx => ?_
 match j, hc, hx with
 | 0, hc, hx => cases hc; cases hx; exact h1
 | 1, hc, hx => cases hc; cases hx; exact h2
theorem V_tup3 {B : Nat} {ρ : Nat -> Option Place} {ok : Nat -> Prop} {w : World} {a b d : AV} {u v y : Value} (h1 : V B ρ ok w a u) (h2 : V B ρ ok w b v) (h3 : V B ρ ok w d y) : V B ρ ok w (.tup [a, b, d]) (.tuple #[u, v, y]) := by
 refine V.tup (l := [a, b, d]) (vs := [u, v, y]) rfl fun j c x hc hx => ?_
 match j, hc, hx with
 | 0, hc, hx => cases hc; cases hx; exact h1
 | 1, hc, hx => cases hc; cases hx; exact h2
 | 2, hc, hx => cases hc; cases hx; exact h3
theorem strconv_Atoi (l : List UInt8) (hl : l.length <= 1000000) : C Tryz.prog 171 [Tx l] (numR l) [] := by
 refine C_lib (fun _ _ => by kernel_rfl) (numR_res l) fun F w vs hG hv => ?_
 obtain ⟨u, rfl, hu⟩ := hv.one;cases V_at hu;have hs := tx_size l;unfold numR;split
 ·rename_i v h;refine (Tryz.strconv_Atoi_ok ⟨l.toArray⟩ (by omega) v h w).mono ?_;rintro e w' ⟨rfl, hb⟩;exact ⟨_, rfl, below_bytes hb, V_tup2 (.at rfl) (.at rfl)⟩
 ·rename_i h;obtain ⟨ev, e1, e2⟩ := glob_syn hG;refine (Tryz.strconv_Atoi_syntax ⟨l.toArray⟩ (by omega) h ev w e1 e2).mono ?_;rintro e w' ⟨N, rfl, -, -, hb⟩;exact ⟨_, rfl, hb, V_tup2 (.at rfl) .err⟩
 ·rename_i h;obtain ⟨ev, e1, e2⟩ := glob_rng hG;refine (Tryz.strconv_Atoi_range ⟨l.toArray⟩ (by omega) h ev w e1 e2).mono ?_;rintro e w' ⟨N, rfl, -, -, hb⟩;exact ⟨_, rfl, hb, V_tup2 (.at rfl) .err⟩
theorem strconv_ParseInt (l : List UInt8) (hl : l.length <= 1000000) : C Tryz.prog 177 [Tx l, Int' 10, Int' 64] (numR l) [] := by
 refine C_lib (fun _ _ => by kernel_rfl) (numR_res l) fun F w vs hG hv => ?_
 obtain ⟨u, v, x, rfl, hu, hq, hx⟩ := hv.three;cases V_at hu; cases V_at hq; cases V_at hx
 have hs := tx_size l;have e64 : Lib.parseIntB 64 (⟨l.toArray⟩ : ByteArray).data.toList = Lib.atoiAll l := Lib.parseIntB_64 l;have s64 : Lib.intSat 64 (⟨l.toArray⟩ : ByteArray).data.toList = Lib.atoiSat l := Lib.intSat_64 l;unfold numR;split
 ·rename_i v h;refine (Tryz.strconv_ParseInt_10_at64_ok ⟨l.toArray⟩ (by omega) v (e64.trans h) w).mono ?_;rintro e w' ⟨rfl, hb⟩;exact ⟨_, rfl, below_bytes hb, V_tup2 (.at rfl) (.at rfl)⟩
 ·rename_i h;obtain ⟨ev, e1, e2⟩ := glob_syn hG;refine (Tryz.strconv_ParseInt_10_at64_syntax ⟨l.toArray⟩ (by omega) (e64.trans h) ev w e1 e2).mono ?_;rintro e w' ⟨N, rfl, -, -, hb⟩;exact ⟨_, rfl, hb, V_tup2 (.at rfl) .err⟩
 ·rename_i h;obtain ⟨ev, e1, e2⟩ := glob_rng hG;refine (Tryz.strconv_ParseInt_10_at64_range ⟨l.toArray⟩ (by omega) (e64.trans h) ev w e1 e2).mono ?_;rintro e w' ⟨N, rfl, -, -, hb⟩;rw [s64];exact ⟨_, rfl, hb, V_tup2 (.at rfl) .err⟩
theorem strings_Index (l sub : List UInt8) (hl : l.length <= 1000000) : C Tryz.prog 141 [Tx l, Tx sub] (Int' (Lib.index l sub)) [] := by
 refine C_lib (fun _ _ => by kernel_rfl) rfl fun F w vs hG hv => ?_
 obtain ⟨u, v, rfl, hu, hq⟩ := hv.two;cases V_at hu; cases V_at hq
 obtain ⟨m, hm⟩ := glob_max hG;have hs := tx_size l;refine (Tryz.strings_Index ⟨l.toArray⟩ ⟨sub.toArray⟩ m w (by omega) hm).mono ?_;rintro e w' ⟨rfl, rfl⟩;exact ⟨_, rfl, Below.refl _ _, .at rfl⟩
theorem strings_IndexByte (l : List UInt8) (c : Int) : C Tryz.prog 142 [Tx l, .at (.int .u8 c)] (Int' (Lib.indexByte l c.toNat.toUInt8)) [] := by
 refine C_lib (fun _ _ => by kernel_rfl) rfl fun F w vs hG hv => ?_
 obtain ⟨u, v, rfl, hu, hq⟩ := hv.two;cases V_at hu; cases V_at hq
 refine (Tryz.strings_IndexByte ⟨l.toArray⟩ c w).mono ?_;rintro e w' ⟨rfl, rfl⟩;exact ⟨_, rfl, Below.refl _ _, .at rfl⟩
theorem strings_Cut (l sep : List UInt8) (hl : l.length <= 1000000) : C Tryz.prog 104 [Tx l, Tx sep] (.tup [Tx (Lib.cut l sep).1, Tx (Lib.cut l sep).2.1, Bool' (Lib.cut l sep).2.2]) [] := by
 refine C_lib (fun _ _ => by kernel_rfl) rfl fun F w vs hG hv => ?_
 obtain ⟨u, v, rfl, hu, hq⟩ := hv.two;cases V_at hu; cases V_at hq
 obtain ⟨m, hm⟩ := glob_max hG;have hs := tx_size l;refine (Tryz.strings_Cut ⟨l.toArray⟩ ⟨sep.toArray⟩ m w (by omega) hm).mono ?_;rintro e w' ⟨rfl, n, rfl⟩;exact ⟨_, rfl, below_drewN' w n, V_tup3 (.at rfl) (.at rfl) (.at rfl)⟩
theorem strings_HasSuffix (l p : List UInt8) (hl : l.length <= 1000000) : C Tryz.prog 107 [Tx l, Tx p] (Bool' (Lib.hasSuffix l p)) [] := by
 refine C_lib (fun _ _ => by kernel_rfl) rfl fun F w vs hG hv => ?_
 obtain ⟨u, v, rfl, hu, hq⟩ := hv.two;cases V_at hu; cases V_at hq
 have hs := tx_size l;refine (Tryz.strings_HasSuffix ⟨l.toArray⟩ ⟨p.toArray⟩ w (by omega)).mono ?_;rintro e w' ⟨rfl, rfl⟩;exact ⟨_, rfl, Below.refl _ _, .at rfl⟩
theorem strings_TrimSuffix (l p : List UInt8) (hl : l.length <= 1000000) : C Tryz.prog 180 [Tx l, Tx p] (Tx (Lib.trimSuffix l p)) [] := by
 refine C_lib (fun _ _ => by kernel_rfl) rfl fun F w vs hG hv => ?_
 obtain ⟨u, v, rfl, hu, hq⟩ := hv.two;cases V_at hu; cases V_at hq
 have hs := tx_size l;refine (Tryz.strings_TrimSuffix ⟨l.toArray⟩ ⟨p.toArray⟩ w (by omega)).mono ?_;rintro e w' ⟨rfl, rfl⟩;exact ⟨_, rfl, Below.refl _ _, .at rfl⟩
theorem txs_flat (ls : List (List UInt8)) : (Txs ls).flatten = ls.map Tx := by
 induction ls with
 | nil => rfl
 | cons l ls ih => show ([Tx l] :: Txs ls).flatten = _; rw [List.flatten_cons, ih]; rfl
theorem V_txs {w w' : World} {ss : List ByteArray} {t : TypeId} {fz : Nat × Nat} {cap : Nat} {cells : Array Value} (hb : w.heap.size < w'.heap.size) (hcap : ss.length <= cap) (hm : cap <= maxLen) (h : w'.heap[w.heap.size]? = some (.cells cells t fz))
  (hc : ∀ (j : Nat) (s : ByteArray), ss[j]? = some s -> cells[j]? = some (.string s)) :
  V w.heap.size noPlace (fun b => w.heap.size <= b /\ b < w'.heap.size) w' (.lst true 1 (Txs (ss.map (·.data.toList)))) (.slice (some ⟨w.heap.size, 0, none⟩) ss.length cap) := by
 have hl : (Txs (ss.map (·.data.toList))).length = ss.length := by simp
 have := PV.lst (F := fun b => (w.heap.size <= b /\ b < w'.heap.size) /\ (true = true -> w.heap.size <= b)) (w := w') (s := 1) (rows := Txs (ss.map (·.data.toList))) (a := some ⟨w.heap.size, 0, none⟩) (cap := cap) (us := ss.map Value.string)
  (fun r hr => by obtain ⟨b, _, rfl⟩ := List.mem_map.1 hr; rfl) (by rw [hl]; exact hcap) hm (fun e => by cases e) (by rw [txs_flat]; simp) (fun u hu => by obtain ⟨b, _, rfl⟩ := List.mem_map.1 hu; rfl)
  (fun ad e _ => by
   cases e;refine ⟨rfl, ⟨⟨Nat.le_refl _, hb⟩, fun _ => Nat.le_refl _⟩, fun j u hj => ?_⟩;rw [List.getElem?_map] at hj;cases hq : ss[j]? with
   | none => rw [hq] at hj; cases hj
   | some s =>
    rw [hq] at hj;cases hj;simp only [World.cell?, h, Nat.zero_add]
    simpa using hc j s hq)
  (fun j c u hcj hu => by
   rw [txs_flat, List.map_map, List.getElem?_map] at hcj;rw [List.getElem?_map] at hu;cases hq : ss[j]? with
   | none => rw [hq] at hcj; cases hcj
   | some s =>
    rw [hq] at hcj hu;cases hcj; cases hu
    have e : (⟨s.data.toList.toArray⟩ : ByteArray) = s := Lib.mk_data s;show PV _ w' (.at (.string ⟨s.data.toList.toArray⟩)) _;rw [e]
    exact .at rfl)
 rw [hl] at this;exact .lst this
def splitL (l sep : List UInt8) : List (List UInt8) := Lib.splitK sep 0 (Lib.count l sep) l
theorem strings_Split (l sep : List UInt8) (hl : l.length <= 1000000) (h1 : 1 <= sep.length) : C Tryz.prog 172 [Tx l, Tx sep] (.lst true 1 (Txs (splitL l sep))) [] := by
 refine C_lib (fun _ _ => by kernel_rfl) rfl fun F w vs hG hv => ?_
 obtain ⟨u, v, rfl, hu, hq⟩ := hv.two;cases V_at hu; cases V_at hq
 obtain ⟨m, hm⟩ := glob_max hG;have hs := tx_size l;have hp := tx_size sep;refine (Tryz.strings_Split ⟨l.toArray⟩ ⟨sep.toArray⟩ m w (by omega) hm (by omega)).mono ?_;rintro e w' ⟨rfl, rfl⟩;have hlen := Lib.splitB_all ⟨sep.toArray⟩ (by omega) 0 _ ⟨l.toArray⟩ rfl;have hle := Lib.countB_le ⟨sep.toArray⟩ (by omega) (⟨l.toArray⟩ : ByteArray).size ⟨l.toArray⟩ (Nat.le_refl _);have hd := Lib.splitB_data ⟨sep.toArray⟩ 0 (Lib.countB ⟨l.toArray⟩ ⟨sep.toArray⟩) ⟨l.toArray⟩;refine ⟨_, rfl, (Below.refl _ _).alloc (Nat.le_refl _) _, ?_⟩;have := V_txs (w := w) (ss := Lib.splitB ⟨sep.toArray⟩ 0 (Lib.countB ⟨l.toArray⟩ ⟨sep.toArray⟩) ⟨l.toArray⟩) (cap := Lib.countB ⟨l.toArray⟩ ⟨sep.toArray⟩ + 1) (w' := w.alloc (.cells ((Lib.splitB ⟨sep.toArray⟩ 0 (Lib.countB ⟨l.toArray⟩ ⟨sep.toArray⟩) ⟨l.toArray⟩).map Value.string).toArray 9)) (by simp) (by omega) (by simp only [maxLen]; omega) (heap_alloc_new w _) (fun j s hj => by simp [hj]);rw [hlen, hd] at this;exact this
set_option maxHeartbeats 2000000
theorem drop_cons {α : Type} {xs : List α} {k : Nat} {x : α} (h : xs[k]? = some x) : xs.drop k = x :: xs.drop (k + 1) := by
 obtain ⟨h1, h2⟩ := List.getElem?_eq_some_iff.1 h;rw [List.drop_eq_getElem_cons h1, h2]
def OwnN (no : List Nat) (s : Nat) (h : Heap) (v : AV) (ns : List Int) : Prop := (v = .nl /\ ns = []) \/ ∃ i, v = .own i 0 ns.length /\ i ∉ no /\ i < s /\ h i = some ⟨3, 1, I ns⟩
theorem OwnN.mono {no no' : List Nat} {s s' : Nat} {h h' : Heap} {v : AV} {ns : List Int} (g : OwnN no s h v ns) (hh : ∀ i, i < s -> i ∉ no -> h' i = h i) (hs : s <= s') (hn : ∀ x, x ∈ no' -> x ∈ no \/ s <= x) : OwnN no' s' h' v ns := by
 rcases g with g | ⟨i, g1, g2, g3, g4⟩
 ·exact .inl g
 ·refine .inr ⟨i, g1, fun hx => ?_, by omega, by rw [hh i g3 g2]; exact g4⟩;rcases hn i hx with q | q
  ·exact g2 q
  ·omega
theorem own_view {h : Heap} {i o m : Nat} {ty : TypeId} {ns : List Int} (hi : h i = some ⟨ty, 1, I ns⟩) (hm : o + m = ns.length) : leafP h [] 3 (.own i o m) = some (.lst false 1 (I (ns.drop o))) := by
 show (match h i with | some e => if o + m <= e.rows.length then (((e.rows.drop o).take m).mapM fun (r : List AV) => r.mapM (leafP h [] 2)).map (AV.lst false e.s ·) else none | none => none) = _;rw [hi];simp only
 have e1 : ((I ns).drop o).take m = I (ns.drop o) := by
  have : ((I ns).drop o) = I (ns.drop o) := by simp [I]
  rw [this];exact List.take_of_length_le (by simp; omega)
 rw [if_pos (by simp; omega), e1, I_shown];rfl
theorem OutL.endN {h : Heap} {i o m : Nat} {ty : TypeId} {fr : Bool} {ns : List Int} {cs ts : List AV} (hi : h i = some ⟨ty, 1, I ns⟩) (hm : o + m = ns.length) (g : OutL h cs ts) : OutL h (.own i o m :: cs) (.lst fr 1 (I (ns.drop o)) :: ts) := by
 have ho : outLeaf h [] (.own i o m) = some (.lst true 1 (I (ns.drop o))) := by
  show (match h i, leafP h [] 3 (.own i o m) with | some e, some (.lst _ s rows) => some (AV.lst (e.rows.all fun r => r.all freshCell) s rows) | _, _ => none) = _;rw [hi, own_view hi hm];simp only [I_fresh]
 exact .cons ho (.lst (fun _ => rfl) (SubR.refl _)) g
theorem cmd_words : C Tryz.prog 134 [] (.lst true 1 (Txs S.words)) [] := by
 refine CI Tryz.func134 ?_;refine rN ?_;refine ⟨⟨.lst true 1 (Txs S.words), ?_, .refl _⟩, rfl⟩;rfl
theorem ref_words : C Tryz.prog 145 [] (.lst true 1 (Txs S.words)) [] := by
 have h := strings_Split ([32, 111, 112, 101, 110, 32, 99, 108, 111, 115, 101, 32, 102, 105, 110, 105, 115, 104, 32, 114, 101, 115, 101, 116, 32, 97, 112, 112, 101, 110, 100, 32, 119, 114, 105, 116, 101, 32, 114, 101, 97, 100, 32, 114, 101, 103, 105, 115, 116, 101, 114, 32, 114, 101, 115, 101, 114, 118, 101, 32, 114, 101, 108, 101, 97, 115, 101, 32, 112, 114, 101, 101, 109, 112, 116, 32, 99, 108, 101, 97, 114]) [32] (by decide) (by decide);have e : splitL ([32, 111, 112, 101, 110, 32, 99, 108, 111, 115, 101, 32, 102, 105, 110, 105, 115, 104, 32, 114, 101, 115, 101, 116, 32, 97, 112, 112, 101, 110, 100, 32, 119, 114, 105, 116, 101, 32, 114, 101, 97, 100, 32, 114, 101, 103, 105, 115, 116, 101, 114, 32, 114, 101, 115, 101, 114, 118, 101, 32, 114, 101, 108, 101, 97, 115, 101, 32, 112, 114, 101, 101, 109, 112, 116, 32, 99, 108, 101, 97, 114]) [32] = S.words := (S.split_one 32 _).trans (by decide);rw [e] at h;refine CI Tryz.func145 ?_;refine rN ?_;refine call_CC h ?_;refine rN ?_;exact ⟨⟨_, rfl, .refl _⟩, rfl⟩
@[simp] theorem Txs_cons (l : List UInt8) (ls : List (List UInt8)) : Txs (l :: ls) = [Tx l] :: Txs ls := rfl
theorem Txs_take (ls : List (List UInt8)) : (Txs ls).take ls.length = Txs ls := List.take_of_length_le (by simp)
theorem index_texts (ls : List (List UInt8)) (w : List UInt8) (hl : ls.length <= 1000000) : C Tryz.prog 173 [.lst false 1 (Txs ls), Tx w] (Int' (S.idxOf w ls)) [] := by
 obtain ⟨r, hr⟩ : ∃ r, S.idxOf w ls = r := ⟨_, rfl⟩;rw [hr];replace hr := hid hr;refine CI Tryz.func173 ?_;refine rN ?_;refine loop_count 8 ls.length (fun k _ m _ => Hid (∀ (j : Nat), j < k -> ls[j]? ≠ some w)) _ rfl (by rfl) (by intro j hj; omega) ?_ ?_
 ·rintro k t h m hk hci hs hb;have hw : IntKind.i64.wrap ((k : Int) + 1) = (k : Int) + 1 := wrap_ok (by omega);obtain ⟨x, hx⟩ : ∃ x, ls[k]? = some x := ⟨ls[k], by simp⟩;have hk' : decide (k < ls.length) = true := by simp [hk]
  have e0 := hs 0 rfl;have e1 := hs 1 rfl;have e7 := hs 7 rfl;clear hs;simp -dsimp -implicitDefEqProofs at e0 e1 e7;replace hk := hid hk;replace hl := hid hl;by_cases hxw : w = x
  ·have := S.idxOf_first (xs := ls) (k := k) (w := w) (by rw [hx, hxw]) hb.out;have e : r = k := by rw [<- hr.out]; exact this
   clear hb this;refine rS (aN e0 (aN e1 (aN e7 (aN hci (aN hk' (aN hx hxw)))))) ?_;exact ends_int e.symm
  ·have hg : ∀ (j : Nat), j < k + 1 -> ls[j]? ≠ some w := by
    intro j hj;rcases Nat.lt_or_ge j k with g | g
    ·exact hb.out j g
    ·have : j = k := by omega
     subst this;rw [hx];exact fun e => hxw (Option.some.inj e).symm
   clear hb;refine rS (aN e0 (aN e1 (aN e7 (aN hci (aN hk' (aN hx (aN hxw hw))))))) ?_;exact hg
 ·rintro t h m hci hs hb;have e0 := hs 0 rfl;have e1 := hs 1 rfl;have e7 := hs 7 rfl;clear hs;simp -dsimp -implicitDefEqProofs at e0 e1 e7;replace hl := hid hl;refine rS (aN e0 (aN e1 (aN e7 hci))) ?_;refine ends_int ?_;rw [<- hr.out];have hrg := S.idxOf_range w ls;by_cases h1 : S.idxOf w ls = -1
  ·exact h1.symm
  ·obtain ⟨k, hk⟩ : ∃ k : Nat, S.idxOf w ls = k := ⟨(S.idxOf w ls).toNat, by omega⟩;exact absurd (S.idxOf_at hk) (hb.out k (by omega))
def TextAt (v : AV) (ns : List Int) (r : List UInt8) (b : Nat) : Prop := ∃ s, v = Tx s /\ S.withNums s ns = r /\ s.length <= b
theorem uses_cases {k : Int} (h1 : 1 <= k) (h2 : k <= 12) : (S.uZ k = true /\ S.uA k = false /\ S.uN k = false) \/ (S.uZ k = true /\ S.uA k = true /\ S.uN k = false) \/ (S.uZ k = true /\ S.uA k = true /\ S.uN k = true) \/ (S.uZ k = false /\ S.uA k = false /\ S.uN k = true) \/ (S.uZ k = false /\ S.uA k = false /\ S.uN k = false) := by
 rcases S.kinds12 h1 h2 with rfl | rfl | rfl | rfl | rfl | rfl | rfl | rfl | rfl | rfl | rfl | rfl <;> decide
theorem uses_casesD {k : Int} (h1 : 1 <= k) (h2 : k <= 12) : (S.uZ k = true /\ S.uA k = false /\ S.uN k = false /\ S.uD k = false) \/ (S.uZ k = true /\ S.uA k = false /\ S.uN k = false /\ S.uD k = true) \/ (S.uZ k = true /\ S.uA k = true /\ S.uN k = false /\ S.uD k = true) \/ (S.uZ k = true /\ S.uA k = true /\ S.uN k = true /\ S.uD k = false) \/ (S.uZ k = false /\ S.uA k = false /\ S.uN k = true /\ S.uD k = false) \/ (S.uZ k = false /\ S.uA k = false /\ S.uN k = false /\ S.uD k = false) := by
 rcases S.kinds12 h1 h2 with rfl | rfl | rfl | rfl | rfl | rfl | rfl | rfl | rfl | rfl | rfl | rfl <;> decide
theorem word_at {K : Nat} (h : K <= 12) : ∃ w, S.words[K]? = some w /\ S.wordOf K = w /\ w.length <= 8 := by
 have : ∀ K : Fin 13, ∃ w, S.words[K.val]? = some w /\ S.wordOf (K.val : Int) = w /\ w.length <= 8 := by decide
 exact this ⟨K, by omega⟩
theorem itoa_call {n : Int} (h0 : 0 <= n) (h1 : n <= 999) : C Tryz.prog 102 [Int' n] (Tx (Lib.itoa n)) [] := strconv_Itoa n (by omega) (by omega)
theorem ends_ti {h : Heap} {n : Nat} {a b : List UInt8} {e e' : Int} (h1 : a = b) (h2 : e = e') : Ends [] (.tup [Tx b, Int' e']) [] h n (.tup [Tx a, Int' e]) := by
 subst h1; subst h2
 exact ⟨⟨_, rfl, .refl _⟩, rfl⟩
theorem cmd_Print_ok (c : S.Cmd) (hc : S.checkCmd c = 0) : C Tryz.prog 101 [.agg (cmdC false c)] (.tup [Tx (S.cmdText c), Int' 0]) [] := by
 obtain ⟨k1, k12, hm, hd, hz, hp, hn, hb⟩ := S.checkCmd_ok hc;have h1 := hid (hc ▸ cmd_Check c);obtain ⟨kind, z, n, p, d⟩ := c;simp only at k1 k12 hm hd hz hp hn hb;obtain ⟨K, rfl⟩ : ∃ K : Nat, kind = K := ⟨kind.toNat, by omega⟩;obtain ⟨w, hw, hw2, hwl⟩ := word_at (K := K) (by omega);have hu := uses_cases k1 k12;have h2 := cmd_uses K;obtain ⟨r, hr⟩ : ∃ r, S.cmdText ⟨K, z, n, p, d⟩ = r := ⟨_, rfl⟩;rw [hr];unfold S.cmdText S.heads at hr;simp only [hw2] at hr;clear hc hm;generalize S.uZ K = b1 at *;generalize S.uA K = b2 at *;generalize S.uN K = b3 at *;generalize S.uD K = b4 at *;have iz := hid (itoa_call hz.1 hz.2);have ip := hid (itoa_call hp.1 hp.2);have in' := hid (itoa_call hn.1 hn.2);have lz := hid (S.itoa_facts hz.1 (by omega)).2.2.2;have lp := hid (S.itoa_facts hp.1 (by omega)).2.2.2;have ln := hid (S.itoa_facts hn.1 (by omega)).2.2.2;replace hb := hid hb;replace h2 := hid h2;clear hz hp hn k1 k12 hw2;have az : decide (1 + (Lib.itoa z).length <= 4000000000000000000) = true := by have := lz.out; simp; omega
 have ap : decide (1 + (Lib.itoa p).length <= 4000000000000000000) = true := by have := lp.out; simp; omega
 have an : decide (1 + (Lib.itoa n).length <= 4000000000000000000) = true := by have := ln.out; simp; omega
 have lw := hid hwl;clear hwl;rcases hu with ⟨rfl, rfl, rfl⟩ | ⟨rfl, rfl, rfl⟩ | ⟨rfl, rfl, rfl⟩ | ⟨rfl, rfl, rfl⟩ | ⟨rfl, rfl, rfl⟩
 ·simp only [if_true, Bool.false_eq_true, if_false, List.append_nil, List.nil_append, List.cons_append, S.withNums] at hr;replace hr := hid hr;have bz : decide (w.length + ((Lib.itoa z).length + 1) <= 4000000000000000000) = true := by have := lw.out; have := lz.out; simp; omega
  refine CI Tryz.func101 ?_;refine rC h1.out ?_;refine rC cmd_words ?_;refine rD hw h2.out ?_;refine rN ?_;refine loop_unroll 4 ?_;refine rC iz.out ?_;refine rS (aN az bz) ?_;refine loop_count 47 d.length (fun k h m t => TextAt (t 5) (d.drop k) r (100 + 4 * k) /\ ∃ d, m = d + 4) _ rfl (by rfl) ⟨⟨_, rfl, by simpa [List.append_assoc] using hr.out, by simp; have := lw.out; have := lz.out; omega⟩, ⟨_, rfl⟩⟩ ?_ ?_
  ·rintro k t h m hk hci hs ⟨⟨s, t5, hs1, hs2⟩, m', rfl⟩;have hw' : IntKind.i64.wrap ((k : Int) + 1) = (k : Int) + 1 := wrap_ok (by omega);obtain ⟨x, hx⟩ : ∃ x, d[k]? = some x := ⟨d[k], by simp⟩;have hk' : decide (k < d.length) = true := by simp [hk]
   have hxb := hb.out x (List.mem_of_getElem? hx);have ix := hid (itoa_call hxb.1 hxb.2);have lx := (S.itoa_facts hxb.1 (by omega)).2.2.2;have ax : decide (1 + (Lib.itoa x).length <= 4000000000000000000) = true := by simp; omega
   have bx : decide (s.length + ((Lib.itoa x).length + 1) <= 4000000000000000000) = true := by simp; omega
   rw [drop_cons hx, S.withNums] at hs1;replace hs1 := hid hs1;replace hs2 := hid (show s.length + ((Lib.itoa x).length + 1) <= 100 + 4 * (k + 1) by omega);replace hk := hid hk;clear lx hxb;have e44 := hs 44 rfl;have e45 := hs 45 rfl;have e46 := hs 46 rfl;clear hs;simp -dsimp -implicitDefEqProofs at e44 e45 e46;refine rD (aN e44 (aN e45 (aN e46 (aN hci (aN hk' hx))))) ix.out ?_;refine rS (aN e44 (aN e45 (aN e46 (aN hci (aN hw' (aN t5 (aN ax bx))))))) ?_;exact ⟨_, rfl, hs1.out, by simpa using hs2.out⟩
  ·rintro t h m hci hs ⟨⟨s, t5, hs1, hs2⟩, m', rfl⟩;have e44 := hs 44 rfl;have e45 := hs 45 rfl;have e46 := hs 46 rfl;clear hs;simp -dsimp -implicitDefEqProofs at e44 e45 e46;rw [List.drop_length, S.withNums] at hs1;refine rS (aN e44 (aN e45 (aN e46 (aN hci t5)))) ?_;exact ends_ti hs1 rfl
 ·simp only [if_true, Bool.false_eq_true, if_false, List.append_nil, List.nil_append, List.cons_append, S.withNums] at hr;replace hr := hid hr;have bz : decide (w.length + ((Lib.itoa z).length + 1) <= 4000000000000000000) = true := by have := lw.out; have := lz.out; have := lp.out; simp; omega
  have bp : decide (w.length + ((Lib.itoa z).length + 1) + ((Lib.itoa p).length + 1) <= 4000000000000000000) = true := by have := lw.out; have := lz.out; have := lp.out; simp; omega
  refine CI Tryz.func101 ?_;refine rC h1.out ?_;refine rC cmd_words ?_;refine rD hw h2.out ?_;refine rN ?_;refine loop_unroll 4 ?_;refine rC iz.out ?_;refine rD (aN az bz) ip.out ?_;refine rS (aN ap bp) ?_;refine loop_count 47 d.length (fun k h m t => TextAt (t 5) (d.drop k) r (100 + 4 * k) /\ ∃ d, m = d + 4) _ rfl (by rfl) ⟨⟨_, rfl, by simpa [List.append_assoc] using hr.out, by simp; have := lw.out; have := lz.out; have := lp.out; omega⟩, ⟨_, rfl⟩⟩ ?_ ?_
  ·rintro k t h m hk hci hs ⟨⟨s, t5, hs1, hs2⟩, m', rfl⟩;have hw' : IntKind.i64.wrap ((k : Int) + 1) = (k : Int) + 1 := wrap_ok (by omega);obtain ⟨x, hx⟩ : ∃ x, d[k]? = some x := ⟨d[k], by simp⟩;have hk' : decide (k < d.length) = true := by simp [hk]
   have hxb := hb.out x (List.mem_of_getElem? hx);have ix := hid (itoa_call hxb.1 hxb.2);have lx := (S.itoa_facts hxb.1 (by omega)).2.2.2;have ax : decide (1 + (Lib.itoa x).length <= 4000000000000000000) = true := by simp; omega
   have bx : decide (s.length + ((Lib.itoa x).length + 1) <= 4000000000000000000) = true := by simp; omega
   rw [drop_cons hx, S.withNums] at hs1;replace hs1 := hid hs1;replace hs2 := hid (show s.length + ((Lib.itoa x).length + 1) <= 100 + 4 * (k + 1) by omega);replace hk := hid hk;clear lx hxb;have e44 := hs 44 rfl;have e45 := hs 45 rfl;have e46 := hs 46 rfl;clear hs;simp -dsimp -implicitDefEqProofs at e44 e45 e46;refine rD (aN e44 (aN e45 (aN e46 (aN hci (aN hk' hx))))) ix.out ?_;refine rS (aN e44 (aN e45 (aN e46 (aN hci (aN hw' (aN t5 (aN ax bx))))))) ?_;exact ⟨_, rfl, hs1.out, by simpa using hs2.out⟩
  ·rintro t h m hci hs ⟨⟨s, t5, hs1, hs2⟩, m', rfl⟩;have e44 := hs 44 rfl;have e45 := hs 45 rfl;have e46 := hs 46 rfl;clear hs;simp -dsimp -implicitDefEqProofs at e44 e45 e46;rw [List.drop_length, S.withNums] at hs1;refine rS (aN e44 (aN e45 (aN e46 (aN hci t5)))) ?_;exact ends_ti hs1 rfl
 ·simp only [if_true, Bool.false_eq_true, if_false, List.append_nil, List.nil_append, List.cons_append, S.withNums] at hr;replace hr := hid hr;have bz : decide (w.length + ((Lib.itoa z).length + 1) <= 4000000000000000000) = true := by have := lw.out; have := lz.out; have := lp.out; have := ln.out; simp; omega
  have bp : decide (w.length + ((Lib.itoa z).length + 1) + ((Lib.itoa p).length + 1) <= 4000000000000000000) = true := by have := lw.out; have := lz.out; have := lp.out; have := ln.out; simp; omega
  have bn : decide (w.length + ((Lib.itoa z).length + ((Lib.itoa p).length + 1) + 1) + ((Lib.itoa n).length + 1) <= 4000000000000000000) = true := by have := lw.out; have := lz.out; have := lp.out; have := ln.out; simp; omega
  refine CI Tryz.func101 ?_;refine rC h1.out ?_;refine rC cmd_words ?_;refine rD hw h2.out ?_;refine rN ?_;refine loop_unroll 4 ?_;refine rC iz.out ?_;refine rD (aN az bz) ip.out ?_;refine rD (aN ap bp) in'.out ?_;refine rS (aN an bn) ?_;refine loop_count 47 d.length (fun k h m t => TextAt (t 5) (d.drop k) r (100 + 4 * k) /\ ∃ d, m = d + 4) _ rfl (by rfl) ⟨⟨_, rfl, by simpa [List.append_assoc] using hr.out, by simp; have := lw.out; have := lz.out; have := lp.out; have := ln.out; omega⟩, ⟨_, rfl⟩⟩ ?_ ?_
  ·rintro k t h m hk hci hs ⟨⟨s, t5, hs1, hs2⟩, m', rfl⟩;have hw' : IntKind.i64.wrap ((k : Int) + 1) = (k : Int) + 1 := wrap_ok (by omega);obtain ⟨x, hx⟩ : ∃ x, d[k]? = some x := ⟨d[k], by simp⟩;have hk' : decide (k < d.length) = true := by simp [hk]
   have hxb := hb.out x (List.mem_of_getElem? hx);have ix := hid (itoa_call hxb.1 hxb.2);have lx := (S.itoa_facts hxb.1 (by omega)).2.2.2;have ax : decide (1 + (Lib.itoa x).length <= 4000000000000000000) = true := by simp; omega
   have bx : decide (s.length + ((Lib.itoa x).length + 1) <= 4000000000000000000) = true := by simp; omega
   rw [drop_cons hx, S.withNums] at hs1;replace hs1 := hid hs1;replace hs2 := hid (show s.length + ((Lib.itoa x).length + 1) <= 100 + 4 * (k + 1) by omega);replace hk := hid hk;clear lx hxb;have e44 := hs 44 rfl;have e45 := hs 45 rfl;have e46 := hs 46 rfl;clear hs;simp -dsimp -implicitDefEqProofs at e44 e45 e46;refine rD (aN e44 (aN e45 (aN e46 (aN hci (aN hk' hx))))) ix.out ?_;refine rS (aN e44 (aN e45 (aN e46 (aN hci (aN hw' (aN t5 (aN ax bx))))))) ?_;exact ⟨_, rfl, hs1.out, by simpa using hs2.out⟩
  ·rintro t h m hci hs ⟨⟨s, t5, hs1, hs2⟩, m', rfl⟩;have e44 := hs 44 rfl;have e45 := hs 45 rfl;have e46 := hs 46 rfl;clear hs;simp -dsimp -implicitDefEqProofs at e44 e45 e46;rw [List.drop_length, S.withNums] at hs1;refine rS (aN e44 (aN e45 (aN e46 (aN hci t5)))) ?_;exact ends_ti hs1 rfl
 ·simp only [if_true, Bool.false_eq_true, if_false, List.append_nil, List.nil_append, List.cons_append, S.withNums] at hr;replace hr := hid hr;have bn : decide (w.length + ((Lib.itoa n).length + 1) <= 4000000000000000000) = true := by have := lw.out; have := ln.out; simp; omega
  refine CI Tryz.func101 ?_;refine rC h1.out ?_;refine rC cmd_words ?_;refine rD hw h2.out ?_;refine rN ?_;refine loop_unroll 4 ?_;refine rC in'.out ?_;refine rS (aN an bn) ?_;refine loop_count 47 d.length (fun k h m t => TextAt (t 5) (d.drop k) r (100 + 4 * k) /\ ∃ d, m = d + 4) _ rfl (by rfl) ⟨⟨_, rfl, by simpa [List.append_assoc] using hr.out, by simp; have := lw.out; have := ln.out; omega⟩, ⟨_, rfl⟩⟩ ?_ ?_
  ·rintro k t h m hk hci hs ⟨⟨s, t5, hs1, hs2⟩, m', rfl⟩;have hw' : IntKind.i64.wrap ((k : Int) + 1) = (k : Int) + 1 := wrap_ok (by omega);obtain ⟨x, hx⟩ : ∃ x, d[k]? = some x := ⟨d[k], by simp⟩;have hk' : decide (k < d.length) = true := by simp [hk]
   have hxb := hb.out x (List.mem_of_getElem? hx);have ix := hid (itoa_call hxb.1 hxb.2);have lx := (S.itoa_facts hxb.1 (by omega)).2.2.2;have ax : decide (1 + (Lib.itoa x).length <= 4000000000000000000) = true := by simp; omega
   have bx : decide (s.length + ((Lib.itoa x).length + 1) <= 4000000000000000000) = true := by simp; omega
   rw [drop_cons hx, S.withNums] at hs1;replace hs1 := hid hs1;replace hs2 := hid (show s.length + ((Lib.itoa x).length + 1) <= 100 + 4 * (k + 1) by omega);replace hk := hid hk;clear lx hxb;have e44 := hs 44 rfl;have e45 := hs 45 rfl;have e46 := hs 46 rfl;clear hs;simp -dsimp -implicitDefEqProofs at e44 e45 e46;refine rD (aN e44 (aN e45 (aN e46 (aN hci (aN hk' hx))))) ix.out ?_;refine rS (aN e44 (aN e45 (aN e46 (aN hci (aN hw' (aN t5 (aN ax bx))))))) ?_;exact ⟨_, rfl, hs1.out, by simpa using hs2.out⟩
  ·rintro t h m hci hs ⟨⟨s, t5, hs1, hs2⟩, m', rfl⟩;have e44 := hs 44 rfl;have e45 := hs 45 rfl;have e46 := hs 46 rfl;clear hs;simp -dsimp -implicitDefEqProofs at e44 e45 e46;rw [List.drop_length, S.withNums] at hs1;refine rS (aN e44 (aN e45 (aN e46 (aN hci t5)))) ?_;exact ends_ti hs1 rfl
 ·simp only [if_true, Bool.false_eq_true, if_false, List.append_nil, List.nil_append, List.cons_append, S.withNums] at hr;replace hr := hid hr;refine CI Tryz.func101 ?_;refine rC h1.out ?_;refine rC cmd_words ?_;refine rD hw h2.out ?_;refine rN ?_;refine loop_unroll 4 ?_;refine rN ?_;refine loop_count 47 d.length (fun k h m t => TextAt (t 5) (d.drop k) r (100 + 4 * k) /\ ∃ d, m = d + 4) _ rfl (by rfl) ⟨⟨_, rfl, by simpa [List.append_assoc] using hr.out, by simp; have := lw.out; omega⟩, ⟨_, rfl⟩⟩ ?_ ?_
  ·rintro k t h m hk hci hs ⟨⟨s, t5, hs1, hs2⟩, m', rfl⟩;have hw' : IntKind.i64.wrap ((k : Int) + 1) = (k : Int) + 1 := wrap_ok (by omega);obtain ⟨x, hx⟩ : ∃ x, d[k]? = some x := ⟨d[k], by simp⟩;have hk' : decide (k < d.length) = true := by simp [hk]
   have hxb := hb.out x (List.mem_of_getElem? hx);have ix := hid (itoa_call hxb.1 hxb.2);have lx := (S.itoa_facts hxb.1 (by omega)).2.2.2;have ax : decide (1 + (Lib.itoa x).length <= 4000000000000000000) = true := by simp; omega
   have bx : decide (s.length + ((Lib.itoa x).length + 1) <= 4000000000000000000) = true := by simp; omega
   rw [drop_cons hx, S.withNums] at hs1;replace hs1 := hid hs1;replace hs2 := hid (show s.length + ((Lib.itoa x).length + 1) <= 100 + 4 * (k + 1) by omega);replace hk := hid hk;clear lx hxb;have e44 := hs 44 rfl;have e45 := hs 45 rfl;have e46 := hs 46 rfl;clear hs;simp -dsimp -implicitDefEqProofs at e44 e45 e46;refine rD (aN e44 (aN e45 (aN e46 (aN hci (aN hk' hx))))) ix.out ?_;refine rS (aN e44 (aN e45 (aN e46 (aN hci (aN hw' (aN t5 (aN ax bx))))))) ?_;exact ⟨_, rfl, hs1.out, by simpa using hs2.out⟩
  ·rintro t h m hci hs ⟨⟨s, t5, hs1, hs2⟩, m', rfl⟩;have e44 := hs 44 rfl;have e45 := hs 45 rfl;have e46 := hs 46 rfl;clear hs;simp -dsimp -implicitDefEqProofs at e44 e45 e46;rw [List.drop_length, S.withNums] at hs1;refine rS (aN e44 (aN e45 (aN e46 (aN hci t5)))) ?_;exact ends_ti hs1 rfl
theorem cmd_Print (c : S.Cmd) : C Tryz.prog 101 [.agg (cmdC false c)] (.tup [Tx (S.cmdPrint c).1, Int' (S.cmdPrint c).2]) [] := by
 unfold S.cmdPrint;by_cases h : S.checkCmd c = 0
 ·rw [if_neg (by simp [h])];exact cmd_Print_ok c h
 ·rw [if_pos h];have h1 := cmd_Check c;generalize S.checkCmd c = e at *;replace h1 := hid h1;refine CI Tryz.func101 ?_;refine rC h1.out ?_;refine rS h ?_;exact ends_ti rfl rfl
end Go.Proofs.YtadmfokicjjglaaGreatDoor.E
