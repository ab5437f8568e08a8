
/- Va: the library's functions on texts, as the engine calls them. -/
import Derived.Test.YtallmebpmoaopaaDoorEa
import Derived.Test.YtallmebpmoaopaaDoorX4
import Derived.Test.YtallmebpmoaopaaDoorBase
import Derived.Test.YtallmebpmoaopaaDoorShelf
import Derived.Lib.ParseIntBTie
import Derived.Lib.AppendIntMem
namespace Go.Proofs.YtallmebpmoaopaaDoor.E
open Go.RowKit Go.Proofs
set_option linter.unusedVariables false
set_option linter.unusedSimpArgs false
set_option maxRecDepth 100000

/-- a text -/
abbrev Tx (l : List UInt8) : AV := .at (.string ⟨l.toArray⟩)
/-- texts, as rows of one cell -/
def Txs (ls : List (List UInt8)) : List (List AV) := ls.map fun l => [Tx l]
@[simp] theorem Txs_length (ls : List (List UInt8)) : (Txs ls).length = ls.length := by simp [Txs]
@[simp] theorem Txs_get (ls : List (List UInt8)) (k : Nat) : (Txs ls)[k]? = (ls[k]?).map fun l => [Tx l] := by simp [Txs]

@[simp] theorem tx_size (l : List UInt8) : (⟨l.toArray⟩ : ByteArray).size = l.length := by simp [ByteArray.size]

/-- a function of the library's: it makes memory, and leaves what was there -/
theorem C_lib {f : FuncId} {args : List AV} {r : AV} (hc : Callable Tryd.prog f) (hr : resV r = true)
    (h : ∀ (F : Nat → Prop) (w : World) (vs : List Value), Glob w.heap.size w → VL 0 noPlace F w args vs → Calls Tryd.prog f vs.toArray w fun e w' => ∃ v, e = .returned v ∧ Below w.heap.size w w' ∧ V w.heap.size noPlace (fun b => w.heap.size ≤ b ∧ b < w'.heap.size) w' r v) :
    C Tryd.prog f args r [] := by
  refine ⟨hc, hr, rfl, fun F w vs hF hG hv => (h F w vs hG hv).mono ?_⟩
  rintro e w' ⟨v, rfl, hb, hv'⟩
  refine ⟨v, noPlace, fun b => F b ∨ (w.heap.size ≤ b ∧ b < w'.heap.size), rfl, ⟨hb, ⟨Nat.le_refl _, hG⟩, fun b hbk => ?_, fun _ _ => rfl, fun i e he => by simp [heapOf] at he, fun i j e e' b c s c' s' h1 => by simp [heapOf] at h1⟩, hv'.mono (fun _ _ => rfl) (fun b hbk => ⟨Or.inr hbk, rfl⟩), fun b hbk => ?_⟩
  · rcases hbk with g | g
    · exact Nat.lt_of_lt_of_le (hF b g) hb.size
    · exact g.2
  · rcases hbk with g | g
    · exact Or.inl g
    · exact Or.inr g.1

theorem VL.one {F : Nat → Prop} {w : World} {a : AV} {vs : List Value} (h : VL 0 noPlace F w [a] vs) : ∃ u, vs = [u] ∧ V 0 noPlace F w a u := by
  obtain ⟨h1, h2⟩ := h
  match vs, h1, h2 with
  | [u], _, h2 => exact ⟨u, rfl, h2 0 _ _ rfl rfl⟩
theorem VL.two {F : Nat → Prop} {w : World} {a b : AV} {vs : List Value} (h : VL 0 noPlace F w [a, b] vs) : ∃ u v, vs = [u, v] ∧ V 0 noPlace F w a u ∧ V 0 noPlace F w b v := by
  obtain ⟨h1, h2⟩ := h
  match vs, h1, h2 with
  | [u, v], _, h2 => exact ⟨u, v, rfl, h2 0 _ _ rfl rfl, h2 1 _ _ rfl rfl⟩
theorem VL.three {F : Nat → Prop} {w : World} {a b c : AV} {vs : List Value} (h : VL 0 noPlace F w [a, b, c] vs) : ∃ u v x, vs = [u, v, x] ∧ V 0 noPlace F w a u ∧ V 0 noPlace F w b v ∧ V 0 noPlace F w c x := by
  obtain ⟨h1, h2⟩ := h
  match vs, h1, h2 with
  | [u, v, x], _, h2 => exact ⟨u, v, x, rfl, h2 0 _ _ rfl rfl, h2 1 _ _ rfl rfl, h2 2 _ _ rfl rfl⟩

theorem below_drewN' (w : World) (n : Nat) : Below w.heap.size w (w.drewN n) := ⟨rfl, rfl, rfl, Nat.le_refl _, fun _ _ => rfl⟩
theorem below_grow' (w : World) (k : Nat) (os : Array Obj) : Below w.heap.size w (Go.Sort.grow (w.drewN k) os) := Lib.below_grow w.heap.size w (Nat.le_refl _) k os
theorem below_bytes {w w' : World} (h : w' = w ∨ ∃ t, w' = Lib.bytesWorld w 5 t) : Below w.heap.size w w' := by
  rcases h with rfl | ⟨t, rfl⟩
  · exact Below.refl _ _
  · exact Lib.bytesWorld_below _ _ _

theorem glob_pow {w : World} (h : Glob w.heap.size w) : Lib.TabIs Tryd.prog w "internal/strconv.uint64pow10" .u64 Lib.pow10Tab := (h.pow10 3 (by kernel_rfl)).2
theorem glob_max {w : World} (h : Glob w.heap.size w) : ∃ m, w.cell? ⟨0, 0, none⟩ = some (.int .i64 m) := (h.maxLen 0 (by kernel_rfl)).2
theorem glob_syn {w : World} (h : Glob w.heap.size w) : ∃ ev, w.cell? ⟨1, 0, none⟩ = some ev ∧ (ev = .nilIface ∨ ∃ te pe, ev = .iface te pe) := (h.errSyntax 1 (by kernel_rfl)).2
theorem glob_rng {w : World} (h : Glob w.heap.size w) : ∃ ev, w.cell? ⟨2, 0, none⟩ = some ev ∧ (ev = .nilIface ∨ ∃ te pe, ev = .iface te pe) := (h.errRange 2 (by kernel_rfl)).2

theorem strconv_Itoa (n : Int) (h0 : -9223372036854775808 ≤ n) (h1 : n ≤ 9223372036854775807) : C Tryd.prog 37 [Int' n] (Tx (Lib.itoa n)) [] := by
  refine C_lib (fun _ _ => by kernel_rfl) rfl fun F w vs hG hv => ?_
  obtain ⟨u, rfl, hu⟩ := hv.one
  cases V_at hu
  refine (Tryd.strconv_Itoa n h0 h1 w (glob_pow hG)).mono ?_
  rintro e w' ⟨rfl, k, os, rfl⟩
  exact ⟨_, rfl, below_grow' w k os, .at rfl⟩
theorem strconv_FormatInt (n : Int) (h0 : -9223372036854775808 ≤ n) (h1 : n ≤ 9223372036854775807) : C Tryd.prog 51 [Int' n, Int' 10] (Tx (Lib.itoa n)) [] := by
  refine C_lib (fun _ _ => by kernel_rfl) rfl fun F w vs hG hv => ?_
  obtain ⟨u, v, rfl, hu, hq⟩ := hv.two
  cases V_at hu; cases V_at hq
  refine (Tryd.strconv_FormatInt_10 n h0 h1 w (glob_pow hG)).mono ?_
  rintro e w' ⟨rfl, k, os, rfl⟩
  exact ⟨_, rfl, below_grow' w k os, .at rfl⟩

/-- what a text reads as -/
def numR (l : List UInt8) : AV := match Lib.atoiAll l with
  | .ok v => .tup [Int' v, .at .nilIface]
  | Lib.NumEnd.syntax => .tup [Int' 0, .err]
  | .range => .tup [Int' (Lib.atoiSat l), .err]
theorem numR_res (l : List UInt8) : resV (numR l) = true := by unfold numR; split <;> rfl

theorem V_tup2 {B : Nat} {ρ : Nat → Option Place} {ok : Nat → Prop} {w : World} {a b : AV} {u v : Value} (h1 : V B ρ ok w a u) (h2 : V B ρ ok w b v) : V B ρ ok w (.tup [a, b]) (.tuple #[u, v]) := by
  refine V.tup (l := [a, b]) (vs := [u, v]) rfl fun j c x hc hx => ?_
  match j, hc, hx with
  | 0, hc, hx => cases hc; cases hx; exact h1
  | 1, hc, hx => cases hc; cases hx; exact h2
theorem V_tup3 {B : Nat} {ρ : Nat → Option Place} {ok : Nat → Prop} {w : World} {a b d : AV} {u v y : Value} (h1 : V B ρ ok w a u) (h2 : V B ρ ok w b v) (h3 : V B ρ ok w d y) : V B ρ ok w (.tup [a, b, d]) (.tuple #[u, v, y]) := by
  refine V.tup (l := [a, b, d]) (vs := [u, v, y]) rfl fun j c x hc hx => ?_
  match j, hc, hx with
  | 0, hc, hx => cases hc; cases hx; exact h1
  | 1, hc, hx => cases hc; cases hx; exact h2
  | 2, hc, hx => cases hc; cases hx; exact h3

theorem strconv_Atoi (l : List UInt8) (hl : l.length ≤ 1000000) : C Tryd.prog 41 [Tx l] (numR l) [] := by
  refine C_lib (fun _ _ => by kernel_rfl) (numR_res l) fun F w vs hG hv => ?_
  obtain ⟨u, rfl, hu⟩ := hv.one
  cases V_at hu
  have hs := tx_size l
  unfold numR
  split
  · rename_i v h
    refine (Tryd.strconv_Atoi_ok ⟨l.toArray⟩ (by omega) v h w).mono ?_
    rintro e w' ⟨rfl, hb⟩
    exact ⟨_, rfl, below_bytes hb, V_tup2 (.at rfl) (.at rfl)⟩
  · rename_i h
    obtain ⟨ev, e1, e2⟩ := glob_syn hG
    refine (Tryd.strconv_Atoi_syntax ⟨l.toArray⟩ (by omega) h ev w e1 e2).mono ?_
    rintro e w' ⟨N, rfl, -, -, hb⟩
    exact ⟨_, rfl, hb, V_tup2 (.at rfl) .err⟩
  · rename_i h
    obtain ⟨ev, e1, e2⟩ := glob_rng hG
    refine (Tryd.strconv_Atoi_range ⟨l.toArray⟩ (by omega) h ev w e1 e2).mono ?_
    rintro e w' ⟨N, rfl, -, -, hb⟩
    exact ⟨_, rfl, hb, V_tup2 (.at rfl) .err⟩

theorem strconv_ParseInt (l : List UInt8) (hl : l.length ≤ 1000000) : C Tryd.prog 50 [Tx l, Int' 10, Int' 64] (numR l) [] := by
  refine C_lib (fun _ _ => by kernel_rfl) (numR_res l) fun F w vs hG hv => ?_
  obtain ⟨u, v, x, rfl, hu, hq, hx⟩ := hv.three
  cases V_at hu; cases V_at hq; cases V_at hx
  have hs := tx_size l
  have e64 : Lib.parseIntB 64 (⟨l.toArray⟩ : ByteArray).data.toList = Lib.atoiAll l := Lib.parseIntB_64 l
  have s64 : Lib.intSat 64 (⟨l.toArray⟩ : ByteArray).data.toList = Lib.atoiSat l := Lib.intSat_64 l
  unfold numR
  split
  · rename_i v h
    refine (Tryd.strconv_ParseInt_10_at64_ok ⟨l.toArray⟩ (by omega) v (e64.trans h) w).mono ?_
    rintro e w' ⟨rfl, hb⟩
    exact ⟨_, rfl, below_bytes hb, V_tup2 (.at rfl) (.at rfl)⟩
  · rename_i h
    obtain ⟨ev, e1, e2⟩ := glob_syn hG
    refine (Tryd.strconv_ParseInt_10_at64_syntax ⟨l.toArray⟩ (by omega) (e64.trans h) ev w e1 e2).mono ?_
    rintro e w' ⟨N, rfl, -, -, hb⟩
    exact ⟨_, rfl, hb, V_tup2 (.at rfl) .err⟩
  · rename_i h
    obtain ⟨ev, e1, e2⟩ := glob_rng hG
    refine (Tryd.strconv_ParseInt_10_at64_range ⟨l.toArray⟩ (by omega) (e64.trans h) ev w e1 e2).mono ?_
    rintro e w' ⟨N, rfl, -, -, hb⟩
    rw [s64]
    exact ⟨_, rfl, hb, V_tup2 (.at rfl) .err⟩

theorem strings_Index (l sub : List UInt8) (hl : l.length ≤ 1000000) : C Tryd.prog 56 [Tx l, Tx sub] (Int' (Lib.index l sub)) [] := by
  refine C_lib (fun _ _ => by kernel_rfl) rfl fun F w vs hG hv => ?_
  obtain ⟨u, v, rfl, hu, hq⟩ := hv.two
  cases V_at hu; cases V_at hq
  obtain ⟨m, hm⟩ := glob_max hG
  have hs := tx_size l
  refine (Tryd.strings_Index ⟨l.toArray⟩ ⟨sub.toArray⟩ m w (by omega) hm).mono ?_
  rintro e w' ⟨rfl, rfl⟩
  exact ⟨_, rfl, Below.refl _ _, .at rfl⟩
theorem strings_IndexByte (l : List UInt8) (c : Int) : C Tryd.prog 57 [Tx l, .at (.int .u8 c)] (Int' (Lib.indexByte l c.toNat.toUInt8)) [] := by
  refine C_lib (fun _ _ => by kernel_rfl) rfl fun F w vs hG hv => ?_
  obtain ⟨u, v, rfl, hu, hq⟩ := hv.two
  cases V_at hu; cases V_at hq
  refine (Tryd.strings_IndexByte ⟨l.toArray⟩ c w).mono ?_
  rintro e w' ⟨rfl, rfl⟩
  exact ⟨_, rfl, Below.refl _ _, .at rfl⟩
theorem strings_Cut (l sep : List UInt8) (hl : l.length ≤ 1000000) : C Tryd.prog 49 [Tx l, Tx sep] (.tup [Tx (Lib.cut l sep).1, Tx (Lib.cut l sep).2.1, Bool' (Lib.cut l sep).2.2]) [] := by
  refine C_lib (fun _ _ => by kernel_rfl) rfl fun F w vs hG hv => ?_
  obtain ⟨u, v, rfl, hu, hq⟩ := hv.two
  cases V_at hu; cases V_at hq
  obtain ⟨m, hm⟩ := glob_max hG
  have hs := tx_size l
  refine (Tryd.strings_Cut ⟨l.toArray⟩ ⟨sep.toArray⟩ m w (by omega) hm).mono ?_
  rintro e w' ⟨rfl, n, rfl⟩
  exact ⟨_, rfl, below_drewN' w n, V_tup3 (.at rfl) (.at rfl) (.at rfl)⟩
theorem strings_HasSuffix (l p : List UInt8) (hl : l.length ≤ 1000000) : C Tryd.prog 53 [Tx l, Tx p] (Bool' (Lib.hasSuffix l p)) [] := by
  refine C_lib (fun _ _ => by kernel_rfl) rfl fun F w vs hG hv => ?_
  obtain ⟨u, v, rfl, hu, hq⟩ := hv.two
  cases V_at hu; cases V_at hq
  have hs := tx_size l
  refine (Tryd.strings_HasSuffix ⟨l.toArray⟩ ⟨p.toArray⟩ w (by omega)).mono ?_
  rintro e w' ⟨rfl, rfl⟩
  exact ⟨_, rfl, Below.refl _ _, .at rfl⟩
theorem strings_TrimSuffix (l p : List UInt8) (hl : l.length ≤ 1000000) : C Tryd.prog 52 [Tx l, Tx p] (Tx (Lib.trimSuffix l p)) [] := by
  refine C_lib (fun _ _ => by kernel_rfl) rfl fun F w vs hG hv => ?_
  obtain ⟨u, v, rfl, hu, hq⟩ := hv.two
  cases V_at hu; cases V_at hq
  have hs := tx_size l
  refine (Tryd.strings_TrimSuffix ⟨l.toArray⟩ ⟨p.toArray⟩ w (by omega)).mono ?_
  rintro e w' ⟨rfl, rfl⟩
  exact ⟨_, rfl, Below.refl _ _, .at rfl⟩

theorem txs_flat (ls : List (List UInt8)) : (Txs ls).flatten = ls.map Tx := by
  induction ls with
  | nil => rfl
  | cons l ls ih => show ([Tx l] :: Txs ls).flatten = _; rw [List.flatten_cons, ih]; rfl
/-- texts that lie in a new block -/
theorem V_txs {w w' : World} {ss : List ByteArray} {t : TypeId} {fz : Nat × Nat} {cap : Nat} {cells : Array Value} (hb : w.heap.size < w'.heap.size) (hcap : ss.length ≤ cap) (hm : cap ≤ maxLen) (h : w'.heap[w.heap.size]? = some (.cells cells t fz))
    (hc : ∀ (j : Nat) (s : ByteArray), ss[j]? = some s → cells[j]? = some (.string s)) :
    V w.heap.size noPlace (fun b => w.heap.size ≤ b ∧ b < w'.heap.size) w' (.lst true 1 (Txs (ss.map (·.data.toList)))) (.slice (some ⟨w.heap.size, 0, none⟩) ss.length cap) := by
  have hl : (Txs (ss.map (·.data.toList))).length = ss.length := by simp
  have := PV.lst (F := fun b => (w.heap.size ≤ b ∧ b < w'.heap.size) ∧ (true = true → w.heap.size ≤ b)) (w := w') (s := 1) (rows := Txs (ss.map (·.data.toList))) (a := some ⟨w.heap.size, 0, none⟩) (cap := cap) (us := ss.map Value.string)
    (fun r hr => by obtain ⟨b, _, rfl⟩ := List.mem_map.1 hr; rfl) (by rw [hl]; exact hcap) hm (fun e => by cases e) (by rw [txs_flat]; simp) (fun u hu => by obtain ⟨b, _, rfl⟩ := List.mem_map.1 hu; rfl)
    (fun ad e _ => by
      cases e
      refine ⟨rfl, ⟨⟨Nat.le_refl _, hb⟩, fun _ => Nat.le_refl _⟩, fun j u hj => ?_⟩
      rw [List.getElem?_map] at hj
      cases hq : ss[j]? with
      | none => rw [hq] at hj; cases hj
      | some s =>
        rw [hq] at hj
        cases hj
        simp only [World.cell?, h, Nat.zero_add]
        simpa using hc j s hq)
    (fun j c u hcj hu => by
      rw [txs_flat, List.map_map, List.getElem?_map] at hcj
      rw [List.getElem?_map] at hu
      cases hq : ss[j]? with
      | none => rw [hq] at hcj; cases hcj
      | some s =>
        rw [hq] at hcj hu
        cases hcj; cases hu
        have e : (⟨s.data.toList.toArray⟩ : ByteArray) = s := Lib.mk_data s
        show PV _ w' (.at (.string ⟨s.data.toList.toArray⟩)) _
        rw [e]
        exact .at rfl)
  rw [hl] at this
  exact .lst this

/-- a text, parted at another one -/
def splitL (l sep : List UInt8) : List (List UInt8) := Lib.splitK sep 0 (Lib.count l sep) l
theorem strings_Split (l sep : List UInt8) (hl : l.length ≤ 1000000) (h1 : 1 ≤ sep.length) : C Tryd.prog 39 [Tx l, Tx sep] (.lst true 1 (Txs (splitL l sep))) [] := by
  refine C_lib (fun _ _ => by kernel_rfl) rfl fun F w vs hG hv => ?_
  obtain ⟨u, v, rfl, hu, hq⟩ := hv.two
  cases V_at hu; cases V_at hq
  obtain ⟨m, hm⟩ := glob_max hG
  have hs := tx_size l
  have hp := tx_size sep
  refine (Tryd.strings_Split ⟨l.toArray⟩ ⟨sep.toArray⟩ m w (by omega) hm (by omega)).mono ?_
  rintro e w' ⟨rfl, rfl⟩
  have hlen := Lib.splitB_all ⟨sep.toArray⟩ (by omega) 0 _ ⟨l.toArray⟩ rfl
  have hle := Lib.countB_le ⟨sep.toArray⟩ (by omega) (⟨l.toArray⟩ : ByteArray).size ⟨l.toArray⟩ (Nat.le_refl _)
  have hd := Lib.splitB_data ⟨sep.toArray⟩ 0 (Lib.countB ⟨l.toArray⟩ ⟨sep.toArray⟩) ⟨l.toArray⟩
  refine ⟨_, rfl, (Below.refl _ _).alloc (Nat.le_refl _) _, ?_⟩
  have := V_txs (w := w) (ss := Lib.splitB ⟨sep.toArray⟩ 0 (Lib.countB ⟨l.toArray⟩ ⟨sep.toArray⟩) ⟨l.toArray⟩) (cap := Lib.countB ⟨l.toArray⟩ ⟨sep.toArray⟩ + 1) (w' := w.alloc (.cells ((Lib.splitB ⟨sep.toArray⟩ 0 (Lib.countB ⟨l.toArray⟩ ⟨sep.toArray⟩) ⟨l.toArray⟩).map Value.string).toArray 9)) (by simp) (by omega) (by simp only [maxLen]; omega) (heap_alloc_new w _) (fun j s hj => by simp [hj])
  rw [hlen, hd] at this
  exact this

end Go.Proofs.YtallmebpmoaopaaDoor.E
