/- EngN: what a function promises, out of its text. -/
import Derived.Test.YtdjdjnmccphbjaaEngM
namespace Go.Proofs.Ytdjdjnmccphbjaa.E
open Go.RowKit

def canonLeaf : AV → Bool
  | .und | .nilv | .nn | .at _ | .nl => true
  | .lst fr _ _ => !fr
  | .fn _ l => l.isEmpty
  | _ => false
def canonV : AV → Bool
  | .agg l => l.all canonLeaf
  | a => canonLeaf a

section
variable {P : Program} {B : Nat} {W0 : World} {ρ : Nat → Option Place} {ok : Nat → Prop} {w : World} {h : Heap} {n : Nat}

theorem canonLeaf_up {F : Nat → Prop} {a : AV} {v : Value} (hc : canonLeaf a = true) (hv : V 0 noPlace F w a v) (B : Nat) : V B noPlace F w a v := by
  cases a <;> simp [canonLeaf] at hc
  · cases hv; exact .und
  · cases hv; exact .nilv
  · cases hv with | nn h1 => exact .nn h1
  · cases hv with | «at» h1 => exact .at h1
  · cases hv; exact .nl
  · subst hc
    cases hv with | lst hp => exact .lst (hp.mono fun b hb => ⟨⟨hb.1, fun e => by cases e⟩, rfl⟩)
  · subst hc
    cases hv with | fn h1 h2 => exact .fn h1 (by simp)
theorem canon_up {F : Nat → Prop} {a : AV} {v : Value} (hc : canonV a = true) (hv : V 0 noPlace F w a v) (B : Nat) : V B noPlace F w a v := by
  unfold canonV at hc
  split at hc
  · rename_i l
    cases hv with
    | agg h1 h2 h3 => exact .agg h1 h2 fun j c u hcj hu => canonLeaf_up (List.all_eq_true.1 hc c (List.mem_of_getElem? hcj)) (h3 j c u hcj hu) B
  · exact canonLeaf_up hc hv B

theorem idxOf_get {l : List Nat} {i j : Nat} (h : l.idxOf? i = some j) : l[j]? = some i := by
  rw [List.idxOf?, List.findIdx?_eq_some_iff_getElem] at h
  obtain ⟨h1, h2, _⟩ := h
  rw [List.getElem?_eq_getElem h1]
  simpa using h2

theorem plain_up {ρ2 : Nat → Option Place} {ok2 : Nat → Prop} {c : AV} {u : Value} (hp : plainCell c = true) (hk : ∀ b, ok b → ok2 b) (hv : V B ρ ok w c u) : V B ρ2 ok2 w c u := by
  cases c <;> simp [plainCell] at hp
  · cases hv with | «at» h1 => exact .at h1
  · cases hv; exact .nl
  · cases hv with | lst hp => exact .lst (hp.mono fun b hb => ⟨⟨hk b hb.1, hb.2⟩, rfl⟩)

theorem outLeaf_sound (H : HRel B W0 ρ ok h n w) {keep : List Nat} {a a' : AV} {v : Value} (he : outLeaf h keep a = some a') (hv : V B ρ ok w a v) :
    V B (fun j => (keep[j]?).bind ρ) (Shown ρ ok h keep) w a' v := by
  unfold outLeaf at he
  split at he
  · cases he; cases hv; exact .und
  · cases he; cases hv with | «at» h1 => exact .at h1
  · cases he; cases hv; exact .nl
  · cases he; cases hv; exact .nl
  · cases he; cases hv with | lst hp => exact .lst (hp.mono fun b hb => ⟨⟨Or.inl hb.1, hb.2⟩, rfl⟩)
  · rename_i i o m
    split at he
    · rename_i j hj
      cases he
      have hg := idxOf_get hj
      cases hv with
      | own0 hp => exact .own0 (by simp [hg, hp])
      | own hp h1 h2 => exact .own (by simp [hg, hp]) h1 h2
    · rename_i hk
      split at he
      · rename_i e fr s rows hen hl
        cases he
        by_cases hfr : (e.rows.all fun r => r.all freshCell) = true
        · rw [hfr]
          refine .lst (PV.mono (F := fun b => Shown ρ ok h keep b ∧ B ≤ b) ?_ fun b hb => ⟨⟨hb.1, fun _ => hb.2⟩, rfl⟩)
          simp only [leafP] at hl
          split at hl
          · cases hl
          · rename_i hav
            rw [hen] at hl
            simp only at hl
            split at hl
            · rename_i hle
              cases hm : ((e.rows.drop o).take m).mapM (fun (r : List AV) => r.mapM (leafP h keep 2)) with
              | none => rw [hm] at hl; cases hl
              | some rows' =>
                rw [hm] at hl
                cases hl
                refine own_show H hen hle hm hv (fun b c s hb => ⟨Or.inr ⟨i, e, c, s, hen, by simpa using hav, hb⟩, ?_⟩) (fun x c' u hx h1 h2 => ?_)
                · rcases H.row i e hen with ⟨q, _⟩ | ⟨b', cap', cur, p1, p2, _⟩
                  · rw [hb] at q; cases q
                  · rw [hb] at p1
                    simp only [Option.some.injEq, Prod.mk.injEq] at p1
                    obtain ⟨rfl, -, -⟩ := p1
                    exact p2
                · obtain ⟨row, hrow, hxr⟩ := List.mem_flatten.1 hx
                  have hf := List.all_eq_true.1 (List.all_eq_true.1 hfr row hrow) x hxr
                  cases x <;> simp [freshCell] at hf <;> simp [leafP] at h1
                  · subst h1; cases h2 with | «at» h1 => exact .at h1
                  · subst h1; cases h2; exact .nl
                  · subst h1; subst hf; cases h2 with | lst hp => exact hp.mono fun b hb => ⟨⟨Or.inl hb.1, hb.2 rfl⟩, rfl⟩
            · cases hl
        · have : (e.rows.all fun r => r.all freshCell) = false := by simpa using hfr
          rw [this]
          have hp := leafP_sound H hl hv
          cases hp with
          | lst g1 g2 g3 g4 g5 g6 g7 g8 => exact .lst (PV.mono (PV.lst g1 g2 g3 g4 g5 g6 g7 g8) fun b hb => ⟨⟨hb, fun e => by cases e⟩, rfl⟩)
      · cases he
  · cases he
    cases hv with | fn h1 h2 => exact .fn h1 (by simp)
  · cases he

theorem outAgg_sound (H : HRel B W0 ρ ok h n w) {keep : List Nat} {a a' : AV} {v : Value} (he : outAgg h keep a = some a') (hv : V B ρ ok w a v) :
    V B (fun j => (keep[j]?).bind ρ) (Shown ρ ok h keep) w a' v := by
  unfold outAgg at he
  split at he
  · rename_i l
    cases hm : l.mapM (outLeaf h keep) with
    | none => rw [hm] at he; cases he
    | some l' =>
      rw [hm] at he
      cases he
      cases hv with
      | agg h1 h2 h3 =>
        refine .agg (by rw [mapM_length hm]; exact h1) h2 (fun j c u hc hu => ?_)
        obtain ⟨x, hx, hfx⟩ := mapM_get hm j c hc
        exact outLeaf_sound H hfx (h3 j x u hx hu)
  · exact outLeaf_sound H he hv

theorem out_sound (H : HRel B W0 ρ ok h n w) {keep : List Nat} {a a' : AV} {v : Value} (he : outV h keep a = some a') (hv : V B ρ ok w a v) :
    V B (fun j => (keep[j]?).bind ρ) (Shown ρ ok h keep) w a' v := by
  unfold outV at he
  split at he
  · rename_i l
    cases hm : l.mapM (outAgg h keep) with
    | none => rw [hm] at he; cases he
    | some l' =>
      rw [hm] at he
      cases he
      cases hv with
      | tup h1 h3 =>
        refine .tup (by rw [mapM_length hm]; exact h1) (fun j c u hc hu => ?_)
        obtain ⟨x, hx, hfx⟩ := mapM_get hm j c hc
        exact outAgg_sound H hfx (h3 j x u hx hu)
  · exact outAgg_sound H he hv

/-- what a function leaves, as its caller is told -/
def Out (S : AV → AV → Prop) (keep : List Nat) (r : AV) (news : List HE) (h : Heap) (_ : Nat) (r0 : AV) : Prop := (∃ r1, outV h keep r0 = some r1 ∧ S r1 r) ∧ keep.mapM h = some news

theorem C_of {S : AV → AV → Prop} (hS : ∀ {B ρ ok w a b v}, S a b → V B ρ ok w a v → V B ρ ok w b v) {f : FuncId} {args : List AV} {r : AV} {news : List HE} (keep : List Nat) (hnd : keep.Nodup) (hargs : args.all canonV = true) (hres : resV r = true) (hpn : plainNews news = true) (hcs : CS P f args (fun _ => none) 0 (Out S keep r news)) : C P f args r news := by
  refine ⟨hcs.1, hres, hpn, fun F w vs hF hv => ?_⟩
  have H0 : HRel w.heap.size w noPlace F (fun _ => none) 0 w := ⟨Below.refl _ _, Nat.le_refl _, hF, fun _ _ => rfl, (fun i e he => by cases he), (fun i j e e' b c s c' s' h1 => by cases h1)⟩
  have hv' : VL w.heap.size noPlace F w args vs := ⟨hv.1, fun j c u hc hu => canon_up (List.all_eq_true.1 hargs c (List.mem_of_getElem? hc)) (hv.2 j c u hc hu) _⟩
  refine (hcs.2 _ _ _ _ _ _ H0 hv').mono ?_
  rintro e w' ⟨v, h', n', r0, ρ', ok', rfl, ⟨⟨r1, ho, hsub⟩, hk⟩, hn, H, hvr, x⟩
  have hkl := mapM_length hk
  have blk : ∀ i e b c s, h' i = some e → ρ' i = some (some (b, c, s)) → w.heap.size ≤ b ∧ ¬ ok' b := by
    intro i e b c s hi hb
    rcases H.row i e hi with ⟨q, _⟩ | ⟨b', cap', cur, p1, p2, p3, _⟩
    · rw [hb] at q; cases q
    · rw [hb] at p1
      simp only [Option.some.injEq, Prod.mk.injEq] at p1
      obtain ⟨rfl, -, -⟩ := p1
      exact ⟨p2, p3⟩
  refine ⟨v, _, _, rfl, ⟨H.below, H.base, fun b hb => shown_lt H hb, fun i hi => ?_, fun j e hj => ?_, ?_⟩, hS hsub (out_sound H ho hvr), fun b hb => ?_⟩
  · have : keep[i]? = none := by simp; omega
    simp [this]
  · obtain ⟨i, hi, hie⟩ := mapM_get hk j e hj
    have hpl : ((keep[j]?).bind ρ') = ρ' i := by rw [hi]; rfl
    rcases H.row i e hie with ⟨q1, q2⟩ | ⟨b, cap, cur, q1, q2, q3, q4, q5, q6, q7, q8, q9, q10⟩
    · exact Or.inl ⟨hpl.trans q1, q2⟩
    · refine Or.inr ⟨b, cap, cur, hpl.trans q1, q2, ?_, q4, q5, q6, q7, q8, q9, q10.1, q10.2.1, fun k c u hc hu => ?_⟩
      · rintro (g | ⟨i2, e2, c2, s2, g1, g2, g3⟩)
        · exact q3 g
        · have := H.inj i2 i e2 e b c2 s2 cap e.s g1 hie g3 q1
          subst this
          exact g2 (List.mem_of_getElem? hi)
      · obtain ⟨row, hrow, hcm⟩ := List.mem_flatten.1 (List.mem_of_getElem? hc)
        have := List.all_eq_true.1 (List.all_eq_true.1 (List.all_eq_true.1 hpn e (List.mem_of_getElem? hj)) row hrow) c hcm
        exact plain_up this (fun b hb => Or.inl hb) (q10.2.2 k c u hc hu)
  · intro i j e e' b c s c' s' hi hj hbi hbj
    obtain ⟨i1, hi1, hie⟩ := mapM_get hk i e hi
    obtain ⟨j1, hj1, hje⟩ := mapM_get hk j e' hj
    simp only [hi1, hj1, Option.bind_some] at hbi hbj
    have := H.inj i1 j1 e e' b c s c' s' hie hje hbi hbj
    subst this
    exact (List.getElem?_inj (List.getElem?_eq_some_iff.1 hi1).1 hnd).1 (hi1.trans hj1.symm)
  · rcases hb with hb | ⟨i, e, c, s, g1, g2, g3⟩
    · exact x.new b hb
    · exact Or.inr (blk i e b c s g1 g3).1

end

/-! rules at a call -/
theorem call_C {P : Program} {draw : Bool} {id : Nat} {f : FuncId} {args : List AV} {t : Nat → AV} {h : Heap} {n : Nat} {d : Option Tmp} {K : St → Prop} {i j} {r : AV} {news : List HE} {args' : List AV} (hC : C P f args' r news) (hv : args.mapM (viewV h) = some args')
    (hc : ((newV r = true ∧ newNews news = true) ∨ args.all plainV = true)) (hl : news.length ≤ 4) (hk : K (St.put ⟨t, updL h id news, n⟩ d (shiftV id r))) : callA P draw id f args t h n d K i j :=
  Or.inl ⟨r, news, args', hv, hC, hc, hl, hk⟩
theorem call_CS {P : Program} {id : Nat} {f : FuncId} {args : List AV} {t : Nat → AV} {h : Heap} {n : Nat} {d : Option Tmp} {K : St → Prop} {i j} (hC : CS P f args h n fun h' n' r => K (St.put ⟨t, h', n'⟩ d r)) : callA P false id f args t h n d K i j :=
  Or.inr ⟨rfl, hC⟩

end Go.Proofs.Ytdjdjnmccphbjaa.E
