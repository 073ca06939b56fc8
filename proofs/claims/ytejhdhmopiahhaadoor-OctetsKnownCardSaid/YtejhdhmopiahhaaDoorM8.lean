/- Drawn regions: whatever may come up now alone, by any rule of operations; the first part of a text. -/
import Derived.Test.YtejhdhmopiahhaaDoorM7
import Derived.Test.YtejhdhmopiahhaaDoorM1
namespace Go.Sp
open Go.RowKit
/-- The only one that may come up now. -/
def onlyR (ops : Array Oper) (ls : List Bool) : List Nat → Option Nat
  | [] => none
  | i :: r => match rdy ops ls i with
    | true => match orL (rdy ops ls) r with | true => none | false => some i
    | false => onlyR ops ls r
theorem onlyR_filter {ops : Array Oper} {ls : List Bool} {i : Nat} : ∀ {l : List Nat}, onlyR ops ls l = some i → l.filter (rdy ops ls) = [i] := by
  intro l
  induction l with
  | nil => intro h; cases h
  | cons j r ih =>
    intro h
    simp only [onlyR] at h
    split at h
    · rename_i hj
      split at h
      · cases h
      · rename_i hn
        cases h
        rw [List.filter_cons, hj]
        simp only [if_true, List.cons.injEq, true_and]
        rw [orL_eq, List.any_eq_false] at hn
        rw [List.filter_eq_nil_iff]
        exact hn
    · rename_i hj
      rw [List.filter_cons, hj]
      exact ih h
theorem onlyR_ready {ops : Array Oper} {ls : List Bool} {i : Nat} (h : onlyR ops ls (idxs ops.toList 0) = some i) : Region.ready .any ops ls.toArray = [i] := by
  rw [rdy_eq, idxs_range]
  exact onlyR_filter h
/-- It is wanted, as far as is known. -/
def gokL (ops : Array Oper) (E : Env) : Option (Nat × Bool) → Bool
  | none => true
  | some (j, w) => match gval ops E j with | some b => b == w | none => false
section
variable {P : Program} {N : Nat} {E : Env} {D : List Deferred} {L L0 : List HP} {Q : Post}
theorem want_ok {ops : Array Oper} {o : Oper} (h : gokL ops E o.guard = true) (a : Act) (hr : Rep N E D a) : Region.wanted o (yielded ops a.tmps) = true := by
  cases hg : o.guard with
  | none => simp [Region.wanted, hg]
  | some x =>
    obtain ⟨j, w⟩ := x
    rw [hg] at h
    simp only [gokL] at h
    split at h
    · rename_i b hb
      have : b = w := by simpa using h
      subst this
      simp [Region.wanted, hg, yielded_of hr hb]
    · cases h
/-- It yields, stores, enters a function, or panics. -/
def Tame (P : Program) (o : Oper) : Prop := ∀ (a : Act) (w : World), match (execOp a.eval o).run P w with
  | .ok (.value _) _ | .ok .skip _ | .ok (.enter _ _) _ | .halt (.panic _) _ => True
  | _ => False
theorem JG_jo {ops : Array Oper} {fuel : Nat} {ls : List Bool} {i : Nat} {o : Oper} (hn : onlyR ops ls (idxs ops.toList 0) = some i) (ho : ops.toList[i]? = some o) (hg : gokL ops E o.guard = true) (ht : Tame P o)
    (h : JO P N none o E D L (fun E' D' L' => Ent L' L0 ∧ JG P N ops fuel (ls.set i true) E' D' L' L0 Q) Q) : JG P N ops (fuel + 1) ls E D L L0 Q := by
  intro F a w hrep hsat
  have hw := want_ok (o := o) hg a hrep
  rw [Array.getElem?_toList] at ho
  refine wpAnyH_all (onlyR_ready hn) (by simp) fun k hk => ?_
  simp only [List.mem_singleton] at hk
  subst hk
  simp only [wpOp, ho, hw, if_true]
  refine .inl ?_
  have h1 := (h F a w hrep hsat (fun a' w' => Sat w' (F :: L0) ∧ wpAnyH P .any ops (lift N F Q) (fun w => Sat w (F :: L0)) fuel (ls.toArray.setIfInBounds k true) a' w') (fun E' D' L' a' w' hn hr' hs' => ⟨hn.1 F w' hs', by
    rw [List.setIfInBounds_toArray]
    exact hn.2 F a' w' hr' hs'⟩)).2
  rw [show (FW none).round = none from rfl, Oper.semAt_none] at h1
  have ht1 := ht a w
  unfold Oper.wp
  cases hres : (execOp a.eval o).run P w with
  | ok n w' =>
    rw [hres] at h1 ht1
    cases n with
    | value v => exact h1
    | skip => exact h1
    | enter f args =>
      rw [Oper.uponIn_enter] at h1
      rw [Oper.upon_enter]
      exact callsIn_wide.1 h1.2
    | _ => exact ht1.elim
  | halt z w' =>
    rw [hres] at h1 ht1
    cases z <;> first | exact h1 | exact ht1.elim
section
variable {d : Option Nat} {ty : TypeId} {pos : String} {after : Array Edge} {g : Option (Nat × Bool)}
theorem tame_call {f : FuncId} [hf : CF P f] {args : Array Operand} {ts : Array TypeId} : Tame P ⟨d, .call ⟨.value (.func f), args, ts⟩, ty, pos, after, g⟩ := fun a w => by
  have e : (execOp a.eval ⟨d, .call ⟨.value (.func f), args, ts⟩, ty, pos, after, g⟩).run P w = .ok (.enter f (args.map a.eval)) w := by simp [execOp, resolve, Act.eval, Deferred.ofValue, invoke, hf.h]
  rw [e]
  trivial
theorem tame_value {o : Oper} (s : (Operand → Value) → Sem Value) (h : ∀ ρ, execOp ρ o = (do pure (Next.value (← s ρ)))) (hp : ∀ ρ w, match (s ρ).run P w with | .ok _ _ | .halt (.panic _) _ => True | _ => False) : Tame P o := fun a w => by
  rw [h]
  have h1 := hp a.eval w
  simp only [Sem.run_bind]
  cases hr : (s a.eval).run P w with
  | ok v w' => simp
  | halt z w' =>
    rw [hr] at h1
    cases z <;> first | trivial | exact h1.elim
/-- s[:h]. -/
theorem JQ_headS {t : TypeId} [TU P t .string] {x hi : Operand} {bs : List UInt8} {h : Nat} {ik : IntKind} (hx : ev E x = some (str bs)) (hh : ev E hi = some (.int ik (h : Int))) (h2 : h ≤ bs.length) :
    JQ P N ⟨d, .slice t x none (some hi) none, ty, pos, after, g⟩ E D L (str (bs.take h)) := fun F a hr w hs => by
  have h5 : (Instr.sliceAt t (str bs) none (some (.int ik (h : Int))) none).run P w = (Instr.slice t (str bs) none (some (.int ik (h : Int))) none).run P w := by simp [Instr.sliceAt, run_underlying' (TU.h (P := P) (t := t))]
  have h6 : (⟨bs.toArray⟩ : ByteArray).extract 0 h = ⟨(bs.take h).toArray⟩ := by rw [extract_str, List.drop_zero]
  simp [execOp, hr.eval hx, hr.eval hh, h5, Instr.slice, Instr.sliceBounds, run_underlying' (TU.h (P := P) (t := t)), size_str, run_sliceBound _ ik (h : Int) bs.length _ (by omega) (by omega), h6]
end
end
end Go.Sp
