
/- Ea: small general rules: what is promised of what can be; rows that are shown; ends. -/
import Derived.Test.YtadmfokicjjglaaGreatDoorEngQ
import Derived.Test.YtadmfokicjjglaaGreatDoorA1
namespace Go.Proofs.YtadmfokicjjglaaGreatDoor.E
open Go.RowKit Go.Proofs
universe u
def Real (args : List AV) : Prop := ∃ (F : Nat -> Prop) (w : World) (vs : List Value), VL 0 noPlace F w args vs
theorem C_real {P : Program} {f : FuncId} {args : List AV} {r : AV} {news : List HE} (hc : Callable P f) (hr : resV r = true) (hn : plainNews news = true) (h : Real args -> C P f args r news) : C P f args r news :=
 ⟨hc, hr, hn, fun F w vs hF hG hv => (h ⟨F, w, vs, hv⟩).2.2.2 F w vs hF hG hv⟩
def Real1 (a : AV) : Prop := ∃ (B : Nat) (ρ : Nat -> Option Place) (F : Nat -> Prop) (w : World) (v : Value), V B ρ F w a v
theorem Real.get {args : List AV} (h : Real args) {j : Nat} {a : AV} (hj : args[j]? = some a) : Real1 a := by
 obtain ⟨F, w, vs, hl, hv⟩ := h;obtain ⟨v, hv'⟩ : ∃ v, vs[j]? = some v := ⟨_, List.getElem?_eq_getElem (by rw [<- hl]; exact (List.getElem?_eq_some_iff.1 hj).1)⟩;exact ⟨_, _, _, _, _, hv j a v hj hv'⟩
theorem Real1.field {l : List AV} (h : Real1 (.agg l)) {j : Nat} {a : AV} (hj : l[j]? = some a) : Real1 a := by
 obtain ⟨B, ρ, F, w, v, hv⟩ := h;cases hv with
 | agg h1 h2 h3 =>
  rename_i vs;obtain ⟨v, hv'⟩ : ∃ v, vs[j]? = some v := ⟨_, List.getElem?_eq_getElem (by rw [<- h1]; exact (List.getElem?_eq_some_iff.1 hj).1)⟩;exact ⟨_, _, _, _, _, h3 j a v hj hv'⟩
theorem Real1.len {fr : Bool} {s : Nat} {rows : List (List AV)} (h : Real1 (.lst fr s rows)) : rows.length <= maxLen := by
 obtain ⟨B, ρ, F, w, v, hv⟩ := h;cases hv with
 | lst hp => cases hp with | lst h1 h2 h3 => omega
theorem pv_real {F : Nat -> Prop} {w : World} {a : AV} {v : Value} (h : PV F w a v) (hn : a = .nl \/ (∃ x, a = .at x) \/ ∃ s rows, a = .lst false s rows) : Real1 a := by
 refine ⟨0, noPlace, F, w, v, ?_⟩;rcases hn with rfl | ⟨x, rfl⟩ | ⟨s, rows, rfl⟩
 ·cases h; exact .nl
 ·cases h with | «at» h => exact .at h
 ·exact .lst (h.mono fun b hb => ⟨⟨hb, fun e => by cases e⟩, rfl⟩)
theorem Real1.cell {fr : Bool} {s : Nat} {rows : List (List AV)} (h : Real1 (.lst fr s rows)) {k j : Nat} {r : List AV} {a : AV} (hk : rows[k]? = some r) (hj : r[j]? = some a) (hn : ∃ s rows, a = .lst false s rows) : Real1 a := by
 obtain ⟨B, ρ, F, w, v, hv⟩ := h;cases hv with
 | lst hp =>
  cases hp with
  | lst h1 h2 h3 h4 h5 h6 h7 h8 =>
   rename_i us;have hm : a ∈ rows.flatten := List.mem_flatten.2 ⟨r, List.mem_of_getElem? hk, List.mem_of_getElem? hj⟩;obtain ⟨i, hi⟩ := List.mem_iff_getElem?.1 hm;obtain ⟨u, hu⟩ : ∃ u, us[i]? = some u := ⟨_, List.getElem?_eq_getElem (by rw [h5]; exact (List.getElem?_eq_some_iff.1 hi).1)⟩;exact pv_real (h8 i a u hi hu) (Or.inr (Or.inr hn))
theorem mapM_map {α β γ : Type} {f : α -> β} {g : β -> Option γ} {e : α -> γ} (h : ∀ x, g (f x) = some (e x)) : ∀ l : List α, (l.map f).mapM g = some (l.map e)
 | [] => rfl
 | x :: l => by rw [List.map_cons, List.mapM_cons, h x, mapM_map h l]; rfl
theorem mapM_mem {α β : Type} {g : α -> Option β} {e : α -> β} : ∀ {l : List α}, (∀ x, x ∈ l -> g x = some (e x)) -> l.mapM g = some (l.map e)
 | [], _ => rfl
 | x :: l, h => by rw [List.mapM_cons, h x (by simp), mapM_mem (fun y hy => h y (by simp [hy]))]; rfl
theorem len3 {α : Type} {l : List α} (h : l.length = 3) : ∃ a b c, l = [a, b, c] := by
 match l, h with
 | [a, b, c], _ => exact ⟨a, b, c, rfl⟩
theorem int_equal (xs ys : List Int) : C Tryz.prog 39 [.lst false 1 (I xs), .lst false 1 (I ys)] (.at (.bool (decide (xs = ys)))) [] := by
 refine C_real (fun _ _ => by kernel_rfl) rfl rfl fun hr => ?_
 have hx := (hr.get (j := 0) rfl).len;rw [I_length] at hx;exact equal_int' xs ys hx
end Go.Proofs.YtadmfokicjjglaaGreatDoor.E
