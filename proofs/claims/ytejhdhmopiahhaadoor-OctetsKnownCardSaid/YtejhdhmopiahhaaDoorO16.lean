/- Layer 1: calls that hand back a fault; 'told', which leaves the laid variable as it was. -/
import Derived.Test.YtejhdhmopiahhaaDoorO14
import Derived.Test.YtejhdhmopiahhaaDoorO12
namespace Go.Proofs.YtejhdhmopiahhaaDoor
open Go Go.Sp
section
variable {N : Nat} {rd : Option Nat} {E : Env} {D : List Deferred} {L : List HP} {Q : Post} {next : Env → List Deferred → List HP → Prop}
variable {d : Option Nat} {ty : TypeId} {pos : String} {after : Array Edge} {g : Option (Nat × Bool)}
theorem JO_callFV {x : Value} {code at_ : Int} {L0 K M L1 : List HP} {f : FuncId} [hf : CF Tryd.prog f] {args : Array Operand} {ts : Array TypeId} {vs : List Value} (hx : evs E args.toList = some vs)
    (hc : Ct Tryd.prog f vs.toArray K (FailsV x code at_ L0)) [hs : Sel K L M] [ha : AppH L0 M L1] (hd : dok N d = true) (h : ∀ q, next (put E d (.tuple #[x, faultI q])) D (Ft q code at_ :: L1)) : JO Tryd.prog N rd ⟨d, .call ⟨.value (.func f), args, ts⟩, ty, pos, after, g⟩ E D L next Q :=
  JO_call hx hc.use hd (fun _ _ ⟨_, ⟨q, he, hL⟩, hL'⟩ => by cases he; rw [hL', hL, List.cons_append, ha.h]; exact h q) (fun _ _ ⟨_, ⟨_, he, _⟩, _⟩ => by cases he)
theorem JO_callFE {code at_ : Int} {L0 K M L1 : List HP} {f : FuncId} [hf : CF Tryd.prog f] {args : Array Operand} {ts : Array TypeId} {vs : List Value} (hx : evs E args.toList = some vs)
    (hc : Ct Tryd.prog f vs.toArray K (FailsE code at_ L0)) [hs : Sel K L M] [ha : AppH L0 M L1] (hd : dok N d = true) (h : ∀ q, next (put E d (faultI q)) D (Ft q code at_ :: L1)) : JO Tryd.prog N rd ⟨d, .call ⟨.value (.func f), args, ts⟩, ty, pos, after, g⟩ E D L next Q :=
  JO_call hx hc.use hd (fun _ _ ⟨_, ⟨q, he, hL⟩, hL'⟩ => by cases he; rw [hL', hL, List.cons_append, ha.h]; exact h q) (fun _ _ ⟨_, ⟨_, he, _⟩, _⟩ => by cases he)
end
/-- The laid variable errors.errorType. -/
def Gl (te : TypeId) (fz : Nat × Nat) : HP := ro 0 (.cells [types 31].toArray te fz)
theorem pers_gl (te : TypeId) (fz : Nat × Nat) : Pers (Gl te fz) := pers_ro _ _
instance (te : TypeId) (fz : Nat × Nat) : PersA (Gl te fz) := ⟨pers_gl te fz⟩
theorem told_faultK (q : Nat) (code at_ : Int) (hc : code ≠ 0) (te : TypeId) (fz : Nat × Nat) : Ct Tryd.prog 16 #[faultI q, faultV code at_] [Ft q code at_, Gl te fz] (RetV (.bool true) [Gl te fz]) :=
  Ct.post (Ct.heap ((Ent.dup (Gl te fz)).trans (Ent.sel (K := [Ft q code at_, Gl te fz, Gl te fz]))) ((told_fault q code at_ hc te fz).frame [Gl te fz])) fun _ _ ⟨_, ⟨he, hL⟩, hL'⟩ => ⟨_, Ent.refl _, he, by rw [hL', hL]; rfl⟩
end Go.Proofs.YtejhdhmopiahhaaDoor
