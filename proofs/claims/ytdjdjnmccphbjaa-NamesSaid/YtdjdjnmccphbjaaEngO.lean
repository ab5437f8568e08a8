/- EngO: a value may be read as less than is known of it: nothing at all as an empty list, what is new as what is not. -/
import Derived.Test.YtdjdjnmccphbjaaEngN
namespace Go.Proofs.Ytdjdjnmccphbjaa.E
open Go.RowKit

/-- a cell in what is read -/
inductive SubC : AV → AV → Prop
  | refl (a : AV) : SubC a a
  | nl {s : Nat} : SubC .nl (.lst false s [])
  | lst {s : Nat} {rows rows' : List (List AV)} : rows.length = rows'.length →
      (∀ (k : Nat) (r r' : List AV), rows[k]? = some r → rows'[k]? = some r' → r.length = r'.length) →
      (∀ (k : Nat) (r r' : List AV), rows[k]? = some r → rows'[k]? = some r' → ∀ (j : Nat) (c c' : AV), r[j]? = some c → r'[j]? = some c' → SubC c c') → SubC (.lst false s rows) (.lst false s rows')

def SubL (R : AV → AV → Prop) (l m : List AV) : Prop := l.length = m.length ∧ ∀ (j : Nat) (c c' : AV), l[j]? = some c → m[j]? = some c' → R c c'
theorem SubL.nil (R : AV → AV → Prop) : SubL R [] [] := ⟨rfl, by simp⟩
theorem SubL.cons {R : AV → AV → Prop} {a b : AV} {l m : List AV} (h : R a b) (g : SubL R l m) : SubL R (a :: l) (b :: m) := by
  refine ⟨by simp [g.1], fun j c c' h1 h2 => ?_⟩
  cases j with
  | zero => simp at h1 h2; subst h1; subst h2; exact h
  | succ j => exact g.2 j c c' (by simpa using h1) (by simpa using h2)

def SubR (rows rows' : List (List AV)) : Prop := rows.length = rows'.length ∧ ∀ (k : Nat) (r r' : List AV), rows[k]? = some r → rows'[k]? = some r' → SubL SubC r r'
theorem SubR.nil : SubR [] [] := ⟨rfl, by simp⟩
theorem SubR.cons {r r' : List AV} {rows rows' : List (List AV)} (h : SubL SubC r r') (g : SubR rows rows') : SubR (r :: rows) (r' :: rows') := by
  refine ⟨by simp [g.1], fun k x x' h1 h2 => ?_⟩
  cases k with
  | zero => simp at h1 h2; subst h1; subst h2; exact h
  | succ k => exact g.2 k x x' (by simpa using h1) (by simpa using h2)
theorem SubR.refl (rows : List (List AV)) : SubR rows rows := ⟨rfl, fun k r r' h1 h2 => by rw [h1] at h2; cases h2; exact ⟨rfl, fun j c c' h3 h4 => by rw [h3] at h4; cases h4; exact .refl _⟩⟩
theorem SubR.map {α : Type} {f g : α → List AV} (h : ∀ x, SubL SubC (f x) (g x)) : ∀ l : List α, SubR (l.map f) (l.map g)
  | [] => .nil
  | x :: l => .cons (h x) (SubR.map h l)
theorem SubC.rows {s : Nat} {rows rows' : List (List AV)} (h : SubR rows rows') : SubC (.lst false s rows) (.lst false s rows') := .lst h.1 (fun k r r' a b => (h.2 k r r' a b).1) (fun k r r' a b => (h.2 k r r' a b).2)

inductive SubF : AV → AV → Prop
  | refl (a : AV) : SubF a a
  | nl {fr : Bool} {s : Nat} : SubF .nl (.lst fr s [])
  | lst {fr fr' : Bool} {s : Nat} {rows rows' : List (List AV)} : (fr' = true → fr = true) → SubR rows rows' → SubF (.lst fr s rows) (.lst fr' s rows')
inductive SubA : AV → AV → Prop
  | leaf {a b : AV} : SubF a b → SubA a b
  | agg {l m : List AV} : SubL SubF l m → SubA (.agg l) (.agg m)
inductive Sub : AV → AV → Prop
  | one {a b : AV} : SubA a b → Sub a b
  | tup {l m : List AV} : SubL SubA l m → Sub (.tup l) (.tup m)
theorem SubA.refl (a : AV) : SubA a a := .leaf (.refl a)
theorem Sub.refl (a : AV) : Sub a a := .one (.refl a)

theorem flatten_idx {rows rows' : List (List AV)} (h1 : rows.length = rows'.length) (h2 : ∀ (k : Nat) (r r' : List AV), rows[k]? = some r → rows'[k]? = some r' → r.length = r'.length) :
    rows.flatten.length = rows'.flatten.length ∧ ∀ (j : Nat) (c' : AV), rows'.flatten[j]? = some c' → ∃ (k : Nat) (r r' : List AV) (i : Nat) (c : AV), rows[k]? = some r ∧ rows'[k]? = some r' ∧ r[i]? = some c ∧ r'[i]? = some c' ∧ rows.flatten[j]? = some c := by
  induction rows generalizing rows' with
  | nil =>
    have : rows' = [] := List.eq_nil_of_length_eq_zero (by simpa using h1.symm)
    subst this; simp
  | cons r rows ih =>
    cases rows' with
    | nil => simp at h1
    | cons r' rows' =>
      have hr := h2 0 r r' rfl rfl
      obtain ⟨g1, g2⟩ := ih (rows' := rows') (by simpa using h1) (fun k x x' a b => h2 (k + 1) x x' (by simpa using a) (by simpa using b))
      refine ⟨by simp [hr, g1], fun j c' hj => ?_⟩
      simp only [List.flatten_cons] at hj ⊢
      by_cases hlt : j < r'.length
      · rw [List.getElem?_append_left hlt] at hj
        obtain ⟨c, hc⟩ : ∃ c, r[j]? = some c := ⟨r[j]'(by omega), by simp⟩
        exact ⟨0, r, r', j, c, rfl, rfl, hc, hj, by rw [List.getElem?_append_left (by omega)]; exact hc⟩
      · rw [List.getElem?_append_right (by omega)] at hj
        obtain ⟨k, x, x', i, c, a1, a2, a3, a4, a5⟩ := g2 _ c' hj
        exact ⟨k + 1, x, x', i, c, by simpa using a1, by simpa using a2, a3, a4, by rw [List.getElem?_append_right (by omega), hr]; exact a5⟩

theorem pv_nil (F : Nat → Prop) (w : World) (s : Nat) (a : Option Addr) : PV F w (.lst false s []) (.slice a 0 0) :=
  PV.lst (us := []) (rows := []) (a := a) (cap := 0) (by simp) (by simp) (by simp) (fun _ => ⟨rfl, rfl⟩) (by simp) (by simp) (fun _ _ hn => absurd rfl hn) (by simp)

theorem pv_rows {F : Nat → Prop} {w : World} {v : Value} {s : Nat} {rows rows' : List (List AV)} (h2 : rows.length = rows'.length) (h3 : ∀ (k : Nat) (r r' : List AV), rows[k]? = some r → rows'[k]? = some r' → r.length = r'.length)
    (ih : ∀ (k : Nat) (r r' : List AV), rows[k]? = some r → rows'[k]? = some r' → ∀ (j : Nat) (c c' : AV), r[j]? = some c → r'[j]? = some c' → ∀ u, PV F w c u → PV F w c' u) (hv : PV F w (.lst false s rows) v) : PV F w (.lst false s rows') v := by
  cases hv with
  | lst g1 g2 g3 g4 g5 g6 g7 g8 =>
    rename_i a cap us
    obtain ⟨k1, k2⟩ := flatten_idx h2 h3
    rw [h2]
    refine .lst (us := us) ?_ (by omega) g3 (fun e => ?_) (by rw [g5, k1]) g6 (fun ad e hn => g7 ad e ?_) (fun j c' u hc hu => ?_)
    · intro r' hr'
      obtain ⟨k, hk⟩ := List.mem_iff_getElem?.1 hr'
      have hkl := (List.getElem?_eq_some_iff.1 hk).1
      obtain ⟨r, hr⟩ : ∃ r, rows[k]? = some r := ⟨rows[k]'(by omega), by simp⟩
      rw [← h3 k r r' hr hk]
      exact g1 r (List.mem_of_getElem? hr)
    · obtain ⟨q1, q2⟩ := g4 e
      subst q1
      exact ⟨List.eq_nil_of_length_eq_zero (by simpa using h2.symm), q2⟩
    · intro e2; subst e2
      exact hn (List.eq_nil_of_length_eq_zero (by simpa using h2.symm))
    · obtain ⟨k, r, r', i, c, a1, a2, a3, a4, a5⟩ := k2 j c' hc
      exact ih k r r' a1 a2 i c c' a3 a4 u (g8 j c u a5 hu)

theorem SubC.pv {a b : AV} (h : SubC a b) {F : Nat → Prop} {w : World} : ∀ {v : Value}, PV F w a v → PV F w b v := by
  induction h with
  | refl a => intro v hv; exact hv
  | nl => intro v hv; cases hv; exact pv_nil _ _ _ _
  | lst h2 h3 _ ih => intro v hv; exact pv_rows h2 h3 (fun k r r' a b j c c' d e u hu => ih k r r' a b j c c' d e hu) hv

section
variable {B : Nat} {ρ : Nat → Option Place} {ok : Nat → Prop} {w : World}
theorem SubF.v {a b : AV} (h : SubF a b) {v : Value} (hv : V B ρ ok w a v) : V B ρ ok w b v := by
  cases h with
  | refl => exact hv
  | nl => cases hv; exact .lst (pv_nil _ _ _ _)
  | lst h1 h2 =>
    cases hv with
    | lst hp =>
      refine .lst ?_
      have := pv_rows h2.1 (fun k r r' a b => (h2.2 k r r' a b).1) (fun k r r' a b j c c' d e u hu => ((h2.2 k r r' a b).2 j c c' d e).pv hu) hp
      exact this.mono fun b hb => ⟨⟨hb.1, fun e => hb.2 (h1 e)⟩, rfl⟩
theorem SubA.v {a b : AV} (h : SubA a b) {v : Value} (hv : V B ρ ok w a v) : V B ρ ok w b v := by
  cases h with
  | leaf h => exact h.v hv
  | agg h =>
    cases hv with
    | agg h1 h2 h3 =>
      refine .agg (by rw [← h.1]; exact h1) h2 fun j c u hc hu => ?_
      obtain ⟨x, hx⟩ : ∃ x, (_ : List AV)[j]? = some x := ⟨_, List.getElem?_eq_getElem (by rw [h.1]; exact (List.getElem?_eq_some_iff.1 hc).1)⟩
      exact (h.2 j x c hx hc).v (h3 j x u hx hu)
theorem Sub.v {a b : AV} (h : Sub a b) {v : Value} (hv : V B ρ ok w a v) : V B ρ ok w b v := by
  cases h with
  | one h => exact h.v hv
  | tup h =>
    cases hv with
    | tup h1 h3 =>
      refine .tup (by rw [← h.1]; exact h1) fun j c u hc hu => ?_
      obtain ⟨x, hx⟩ : ∃ x, (_ : List AV)[j]? = some x := ⟨_, List.getElem?_eq_getElem (by rw [h.1]; exact (List.getElem?_eq_some_iff.1 hc).1)⟩
      exact (h.2 j x c hx hc).v (h3 j x u hx hu)
end

/-- less may be known of the arguments -/
theorem C.args {P : Program} {f : FuncId} {args args2 : List AV} {r : AV} {news : List HE} (h : C P f args r news) (hs : SubL SubA args2 args) : C P f args2 r news := by
  obtain ⟨h1, h2, h3, h4⟩ := h
  refine ⟨h1, h2, h3, fun F w vs hF hv => h4 F w vs hF ⟨hs.1.symm.trans hv.1, fun j c u hc hu => ?_⟩⟩
  obtain ⟨x, hx⟩ : ∃ x, args2[j]? = some x := ⟨_, List.getElem?_eq_getElem (by rw [hs.1]; exact (List.getElem?_eq_some_iff.1 hc).1)⟩
  exact (hs.2 j x c hx hc).v (hv.2 j x u hx hu)
/-- less may be said of the result -/
theorem C.res {P : Program} {f : FuncId} {args : List AV} {r r2 : AV} {news : List HE} (h : C P f args r news) (hs : Sub r r2) (hr : resV r2 = true) : C P f args r2 news := by
  obtain ⟨h1, h2, h3, h4⟩ := h
  refine ⟨h1, hr, h3, fun F w vs hF hv => (h4 F w vs hF hv).mono ?_⟩
  rintro e w' ⟨v, ρ, ok, g1, g2, g3, g4⟩
  exact ⟨v, ρ, ok, g1, g2, hs.v g3, g4⟩

/-- what a function leaves: a result that may be said so, and rows that its caller then owns -/
def Ends (keep : List Nat) (r : AV) (news : List HE) (h : Heap) (_ : Nat) (r0 : AV) : Prop := (∃ r1, outV h keep r0 = some r1 ∧ Sub r1 r) ∧ keep.mapM h = some news

/-- what a function promises, out of its text -/
theorem C_inline {P : Program} {f : FuncId} {fn : Func} {c : Code} {args : List AV} {r : AV} {news : List HE} (keep : List Nat) (hf : P.funcs[f]? = some fn) (hc : Callable P f) (hb : fn.body = some c) (hok : codeOk P fn.ntmps c = true) (hl : Nat.ble args.length fn.ntmps = true)
    (hnd : keep.Nodup) (hargs : args.all canonV = true) (hres : resV r = true) (hpn : plainNews news = true)
    (hw : wpA P c (endA P fn.results.toList (Ends keep r news) ⟨⟩) ⟨⟩ ⟨⟩ ⟨initT args, fun _ => none, 0⟩) : C P f args r news :=
  C_of (S := Sub) (fun h hv => Sub.v h hv) keep hnd hargs hres hpn (CS_inline (typesOk P) hf hc hb hok (Nat.le_of_ble_eq_true hl) hw)

/-- an empty list is nil or it is not -/
theorem C_empty {P : Program} {f : FuncId} {s : Nat} {r : AV} {news : List HE} (h1 : C P f [.nilv] r news) (h2 : C P f [.nn] r news) : C P f [.lst false s []] r news := by
  refine ⟨h1.1, h1.2.1, h1.2.2.1, fun F w vs hF hv => ?_⟩
  obtain ⟨hl, hg⟩ := hv
  obtain ⟨v, rfl⟩ : ∃ v, vs = [v] := by
    match vs, hl with
    | [v], _ => exact ⟨v, rfl⟩
  have hv := hg 0 _ v rfl rfl
  have one : ∀ {a : AV}, V 0 noPlace F w a v → VL 0 noPlace F w [a] [v] := fun {a} ha => ⟨rfl, fun j c u hc hu => by
    cases j with
    | zero => cases hc; cases hu; exact ha
    | succ j => simp at hc⟩
  cases hv with
  | lst hp =>
    cases hp with
    | lst g1 g2 g3 g4 g5 g6 g7 g8 =>
      rename_i a cap us
      cases a with
      | none =>
        obtain ⟨-, rfl⟩ := g4 rfl
        exact h1.2.2.2 F w _ hF (one .nilv)
      | some ad => exact h2.2.2.2 F w _ hF (one (.nn g3))

/-- an empty list may be said to be a row of one's own -/
theorem C_nl_own {P : Program} {f : FuncId} {args : List AV} {el : TypeId} {s : Nat} (h : C P f args .nl []) : C P f args (.own 0 0 0) [⟨el, s, []⟩] := by
  refine ⟨h.1, rfl, rfl, fun F w vs hF hv => (h.2.2.2 F w vs hF hv).mono ?_⟩
  rintro e w' ⟨v, ρ, ok, rfl, H, hr, ho⟩
  refine ⟨v, fun i => if i = 0 then some none else none, ok, rfl, ⟨H.below, H.base, H.okb, fun i hi => ?_, fun i e he => ?_, fun i j e e' b c s c' s' h1 h2 h3 => ?_⟩, ?_, ho⟩
  · simp at hi; simp; omega
  · cases i with
    | zero => simp [heapOf] at he; subst he; exact Or.inl ⟨rfl, rfl⟩
    | succ i => simp [heapOf] at he
  · split at h3 <;> cases h3
  · cases hr
    exact .own0 rfl

/-- a row of numbers -/
def I (xs : List Int) : List (List AV) := xs.map fun x => [.at (.int .i64 x)]
@[simp] theorem I_length (xs : List Int) : (I xs).length = xs.length := by simp [I]
@[simp] theorem I_get (xs : List Int) (k : Nat) : (I xs)[k]? = (xs[k]?).map fun x => [AV.at (.int .i64 x)] := by simp [I]

end Go.Proofs.Ytdjdjnmccphbjaa.E
