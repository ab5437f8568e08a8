/- EngD: each operation that only reckons or reads does what the abstract machine says. -/
import Derived.Test.YtdjdjnmccphbjaaEngC
import Derived.Laws.Slices
import Derived.Laws.StructEq
namespace Go.Proofs.Ytdjdjnmccphbjaa.E
open Go.RowKit

def okOpd : Operand → Bool
  | .const v => okConst v
  | .global _ => false
  | _ => true

/-- the state stands for a frame in a world -/
structure Rl (B : Nat) (W0 : World) (ρ : Nat → Option Place) (ok : Nat → Prop) (nt : Nat) (st : St) (a : Act) (w : World) : Prop where
  heap : HRel B W0 ρ ok st.h st.n w
  tmps : ∀ k, V B ρ ok w (st.t k) (a.tmps.getD k undef)
  size : a.tmps.size = nt
  defers : a.defers = []

section
variable {P : Program} {B : Nat} {W0 : World} {ρ : Nat → Option Place} {ok : Nat → Prop} {w : World} {nt : Nat} {st : St} {a : Act}

theorem leafOf_sound {v : Value} (h : okLeaf v = true) : V B ρ ok w (leafOf v) v ∧ v.oneCell' = true := by
  unfold okLeaf at h
  split at h
  · exact ⟨.nl, rfl⟩
  · rename_i hn
    have e : leafOf v = .at v := by
      unfold leafOf
      split
      · exact absurd rfl hn
      · rfl
    rw [e]
    refine ⟨.at h, ?_⟩
    unfold atomic at h
    split at h <;> first | rfl | cases h

theorem ofVal_sound {v : Value} (h : okConst v = true) : V B ρ ok w (ofVal v) v := by
  unfold okConst at h
  split at h
  · rename_i cs
    have e : ofVal (.agg cs) = .agg (cs.toList.map leafOf) := rfl
    rw [e]
    have ha := List.all_eq_true.1 h
    have := V.agg (B := B) (ρ := ρ) (ok := ok) (w := w) (l := cs.toList.map leafOf) (vs := cs.toList) (by simp) (fun u hu => (leafOf_sound (B := B) (ρ := ρ) (ok := ok) (w := w) (ha u hu)).2) (fun j c u hc hu => by
      rw [List.getElem?_map, hu] at hc
      cases hc
      exact (leafOf_sound (ha u (List.mem_of_getElem? hu))).1)
    simpa using this
  · rename_i hn
    have e : ofVal v = leafOf v := by
      unfold ofVal leafOf
      split
      · rfl
      · rename_i cs; exact absurd rfl (hn cs)
      · rename_i h1 h2
        split
        · exact absurd rfl h1
        · rfl
    rw [e]
    exact (leafOf_sound h).1

theorem ev_sound (R : Rl B W0 ρ ok nt st a w) {x : Operand} (h : okOpd x = true) : V B ρ ok w (evA st.t x) (a.eval x) := by
  cases x with
  | tmp k => exact R.tmps k
  | const v => exact ofVal_sound h
  | global g => cases h
  | func f => exact .fn (l := []) (vs := []) rfl (by simp)

theorem V_at {v u : Value} (h : V B ρ ok w (.at v) u) : u = v := by cases h; rfl
theorem V_natOf {x : AV} {u : Value} {k : Nat} (h : V B ρ ok w x u) (hk : natOf x = some k) : ∃ kd, u = .int kd (k : Int) := by
  unfold natOf at hk
  split at hk
  · rename_i kd n
    split at hk
    · cases hk
      have := V_at h
      exact ⟨kd, by rw [this]; congr 1; omega⟩
    · cases hk
  · cases hk

theorem run_equalIn_bool (d : Nat) {t : TypeId} (x y : Bool) (h : P.underlying t = some .bool) (w : World) : (Op.equalIn (d + 1) t (.bool x) (.bool y)).run P w = .ok (x == y) w := by
  simp [Op.equalIn, run_underlying h]
theorem run_equal_bool {t : TypeId} (x y : Bool) (h : P.underlying t = some .bool) (w : World) : (Op.equal t (.bool x) (.bool y)).run P w = .ok (x == y) w := run_equalIn_bool 9999 x y h w

theorem bin_sound {op : BinOp} {t : TypeId} {xo yo : Operand} {x y r : AV} {u v : Value} (hx : V B ρ ok w x u) (hy : V B ρ ok w y v) (h : binA P op t x y = some r) :
    ∃ z, (do eqGuard op t xo yo u v; binOp op t u v : Sem Value).run P w = .ok z w ∧ V B ρ ok w r z := by
  unfold binA at h
  split at h
  · rename_i k a k' b
    cases V_at hx; cases V_at hy
    split at h
    · rename_i hk
      subst hk
      cases op <;> simp [cmpA] at h <;> (first | subst h | (obtain ⟨h0, h⟩ := h; subst h)) <;>
        (refine ⟨_, ?_, .at rfl⟩; simp [eqGuard, binOp, Op.intArith, Op.intCmp, Op.intDiv, Bool.beq_eq_decide_eq, bne, *])
    · cases h
  · rename_i a b
    cases V_at hx; cases V_at hy
    split at h
    · rename_i hb
      cases h
      refine ⟨_, ?_, .at rfl⟩
      simp [eqGuard, binOp, run_equal_bool _ _ (tk_bool hb)]
    · rename_i hb
      cases h
      refine ⟨_, ?_, .at rfl⟩
      simp [eqGuard, binOp, run_equal_bool _ _ (tk_bool hb)]
    · cases h
  · rename_i a b
    cases V_at hx; cases V_at hy
    have e : (a.toList == b.toList) = decide (a = b) := by
      by_cases hab : a = b
      · simp [hab]
      · have hne : a.toList ≠ b.toList := fun e => hab (by rw [ByteArray.toList_eq, ByteArray.toList_eq] at e; exact ByteArray.ext (Array.toList_inj.1 e))
        simp [hab, hne]
    split at h
    · cases h
      exact ⟨_, by simp [eqGuard, binOp, Op.stringOp, e], .at rfl⟩
    · cases h
      exact ⟨_, by simp [eqGuard, binOp, Op.stringOp, e], .at rfl⟩
    · cases h
  · cases h

theorem un_sound {op : UnOp} {x r : AV} {u : Value} (hx : V B ρ ok w x u) (h : unA op x = some r) : ∃ z, (Op.unary op u).run P w = .ok z w ∧ V B ρ ok w r z := by
  unfold unA at h
  split at h
  · cases V_at hx
    cases h
    exact ⟨_, rfl, .at rfl⟩
  · cases h

theorem extract_sound {l : List AV} {k : Nat} {r : AV} {u : Value} (hx : V B ρ ok w (.tup l) u) (h : l[k]? = some r) : ∃ z, (Instr.extract u k).run P w = .ok z w ∧ V B ρ ok w r z := by
  cases hx with
  | tup h1 h2 =>
    rename_i vs
    obtain ⟨z, hz⟩ : ∃ z, vs[k]? = some z := ⟨vs[k]'(by have := (List.getElem?_eq_some_iff.1 h).1; omega), by simp⟩
    exact ⟨z, by simp [Instr.extract, hz], h2 k r z h hz⟩

theorem fieldAddr_sound {t : TypeId} {f : Nat} {x r : AV} {u : Value} (hx : V B ρ ok w x u) (h : fieldAddrA P t x f = some r) : ∃ z, (Instr.fieldAt t u f).run P w = .ok z w ∧ V B ρ ok w r z := by
  unfold fieldAddrA at h
  split at h
  · rename_i fs htk
    obtain ⟨fields, hu, hm⟩ := tk_struct htk
    split at h
    · rename_i off sz hf
      obtain ⟨fld, hff, hfi⟩ := mapM_get hm f _ hf
      have hfld : fields[f]? = some fld := by simpa using hff
      cases hq : P.info? fld.type with
      | none => rw [hq] at hfi; cases hfi
      | some i =>
        rw [hq] at hfi
        simp only [Option.map_some, Option.some.injEq, Prod.mk.injEq] at hfi
        obtain ⟨rfl, hsz⟩ := hfi
        split at h
        · cases h
        · rename_i hne
          have hi := hq
          have his := hsz
          have hso : (sizeOf fld.type).run P w = .ok sz w := by simp [sizeOf, typeInfo, hi, his]
          split at h
          · cases h
            cases hx with
            | ptr hp =>
              refine ⟨_, ?_, .ptr hp⟩
              simp [Instr.fieldAt, run_underlying hu, hfld, Instr.sureAddr, fieldPlace, hso, hne, addr_add, Nat.add_assoc]
          · cases h
            obtain ⟨b, o, rfl, hb, us, h1, h2, h3, h4⟩ := cellsAt_rp hx
            cases hx with
            | rp g1 g2 g3 g4 g5 =>
              rename_i us
              refine ⟨.pointer (some ⟨b, o + fld.offset, none⟩), ?_, .rp hb (us := us.drop fld.offset) (by simp [g2]) (fun u hu => g3 u (List.mem_of_mem_drop hu)) (fun j u hj => ?_) (fun j c u hc hu => ?_)⟩
              · simp [Instr.fieldAt, run_underlying hu, hfld, Instr.sureAddr, fieldPlace, hso, hne, addr_add]
              · rw [List.getElem?_drop] at hj
                rw [Nat.add_assoc]
                exact g4 _ u hj
              · rw [List.getElem?_drop] at hc hu
                exact g5 _ c u hc hu
          · cases h
    · cases h
  · cases h

end
end Go.Proofs.Ytdjdjnmccphbjaa.E
