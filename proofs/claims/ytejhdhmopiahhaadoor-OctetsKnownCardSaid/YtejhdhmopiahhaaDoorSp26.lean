/- Calls of entries without a body; calls through interfaces. -/
import Derived.Test.YtejhdhmopiahhaaDoorSp25
namespace Go.Sp
open Go.RowKit
section
variable {P : Program} {N : Nat} {rd : Option Nat} {E : Env} {D : List Deferred} {L : List HP} {Q : Post} {next : Env → List Deferred → List HP → Prop}
variable {d : Option Nat} {ty : TypeId} {pos : String} {after : Array Edge} {g : Option (Nat × Bool)}
theorem evs_map {args : Array Operand} {vs : List Value} {a : Act} (hr : Rep N E D a) (hx : evs E args.toList = some vs) : args.map a.eval = vs.toArray := by
  rw [← hr.evals hx]; apply Array.ext'; simp
theorem exec_fn {f : FuncId} {args : Array Operand} {ts : Array TypeId} {vs : List Value} {a : Act} (hr : Rep N E D a) (hx : evs E args.toList = some vs) (w : World) :
    (execOp a.eval ⟨d, .call ⟨.value (.func f), args, ts⟩, ty, pos, after, g⟩).run P w = (callFunc f vs.toArray).run P w := by
  simp [execOp, resolve, evs_map hr hx, Act.eval, Deferred.ofValue, invoke]
theorem exec_inv {x : Operand} {name : String} {args : Array Operand} {ts : Array TypeId} {vs : List Value} {a : Act} {t : TypeId} {v r : Value} {f : FuncId} (hr : Rep N E D a) (hx : ev E x = some (.iface t v)) (ha : evs E args.toList = some vs)
    (hm : ∀ w, (Go.method (P.types.size + Made.depth) t v name).run P w = .ok (f, r) w) (w : World) :
    (execOp a.eval ⟨d, .call ⟨.invoke x name, args, ts⟩, ty, pos, after, g⟩).run P w = (callFunc f (r :: vs).toArray).run P w := by
  have h1 : (#[Value.iface t v] ++ vs.toArray).extract 1 (#[Value.iface t v] ++ vs.toArray).size = vs.toArray := by
    apply Array.ext'
    simp
  have h2 : (#[Value.iface t v] ++ vs.toArray)[0]? = some (Value.iface t v) := by simp
  have h0 : (execOp a.eval ⟨d, .call ⟨.invoke x name, args, ts⟩, ty, pos, after, g⟩) = (do let e ← (pure { target := .fn (.method name) #[], args := #[a.eval x] ++ args.map a.eval } : Sem Deferred); invoke e.target e.args) := rfl
  rw [h0, evs_map hr ha, hr.eval hx]
  simp only [Sem.run_bind, Sem.run_pure, Result.andThen_ok, invoke, h2, h1]
  unfold callMethod
  have h3 : ∀ (k : Program → Sem Next), Sem.run P ((program : Sem Program) >>= k) w = Sem.run P (k P) w := fun k => rfl
  rw [h3]
  simp [hm]
theorem JQ_ext {f : FuncId} {args : Array Operand} {ts : Array TypeId} {vs : List Value} {v : Value} (hx : evs E args.toList = some vs) (h : ∀ (F : HP) (w : World), Sat w (F :: L) → (callFunc f vs.toArray).run P w = .ok (.value v) w) :
    JQ P N ⟨d, .call ⟨.value (.func f), args, ts⟩, ty, pos, after, g⟩ E D L v := fun F a hr w hs => by rw [exec_fn hr hx]; exact h F w hs
theorem JQ_inv {x : Operand} {name : String} {args : Array Operand} {ts : Array TypeId} {vs : List Value} {t : TypeId} {v r u : Value} {f : FuncId} (hx : ev E x = some (.iface t v)) (ha : evs E args.toList = some vs)
    (hm : ∀ w, (Go.method (P.types.size + Made.depth) t v name).run P w = .ok (f, r) w) (h : ∀ (F : HP) (w : World), Sat w (F :: L) → (callFunc f (r :: vs).toArray).run P w = .ok (.value u) w) :
    JQ P N ⟨d, .call ⟨.invoke x name, args, ts⟩, ty, pos, after, g⟩ E D L u := fun F a hr w hs => by rw [exec_inv hr hx ha hm]; exact h F w hs
/-- An entry that lays one object. -/
theorem JO_extA {f : FuncId} {args : Array Operand} {ts : Array TypeId} {vs : List Value} {v : Nat → Value} {o : Obj} (hx : evs E args.toList = some vs) (hr : ∀ w, (callFunc f vs.toArray).run P w = .ok (.value (v w.heap.size)) (w.alloc o)) (hd : dok N d = true)
    (h : ∀ b, next (put E d (v b)) D (pt b o :: L)) : JO P N rd ⟨d, .call ⟨.value (.func f), args, ts⟩, ty, pos, after, g⟩ E D L next Q :=
  JO_value (fun c => by simp) hd fun F a w hrep hs => ⟨v w.heap.size, w.alloc o, pt w.heap.size o :: L, by rw [exec_fn hrep hx, hr], (hs.new o).swap, h _⟩
/-- A method that is a function with a body. -/
theorem JO_invE {x : Operand} {name : String} {args : Array Operand} {ts : Array TypeId} {vs : List Value} {t : TypeId} {v r : Value} {f : FuncId} [hf : CF P f] {R : Ending → List HP → Prop} (hx : ev E x = some (.iface t v)) (ha : evs E args.toList = some vs)
    (hm : ∀ w, (Go.method (P.types.size + Made.depth) t v name).run P w = .ok (f, r) w) (hc : Ct P f (r :: vs).toArray L R) (hd : dok N d = true)
    (hv : ∀ u L', R (.returned u) L' → next (put E d u) D L') (hp : ∀ ch L', R (.panicked ch) L' → Q (.panic ch) E D L') : JO P N rd ⟨d, .call ⟨.invoke x name, args, ts⟩, ty, pos, after, g⟩ E D L next Q :=
  JO_enter (fun c => by simp) hd (fun a w hr => by rw [exec_inv hr hx ha hm]; exact hf.h _ w) hc hv hp
theorem JO_invV {x : Operand} {name : String} {args : Array Operand} {ts : Array TypeId} {vs : List Value} {t : TypeId} {v r u : Value} {f : FuncId} [hf : CF P f] {L0 K M L1 : List HP} (hx : ev E x = some (.iface t v)) (ha : evs E args.toList = some vs)
    (hm : ∀ w, (Go.method (P.types.size + Made.depth) t v name).run P w = .ok (f, r) w) (hc : Ct P f (r :: vs).toArray K (RetV u L0)) [hs : Sel K L M] [hap : AppH L0 M L1] (hd : dok N d = true)
    (h : next (put E d u) D L1) : JO P N rd ⟨d, .call ⟨.invoke x name, args, ts⟩, ty, pos, after, g⟩ E D L next Q :=
  JO_invE hx ha hm hc.use hd (fun _ _ ⟨_, ⟨he, hL⟩, hL'⟩ => by cases he; rw [hL', hL, hap.h]; exact h) (fun _ _ ⟨_, ⟨he, _⟩, _⟩ => by cases he)
end
end Go.Sp
