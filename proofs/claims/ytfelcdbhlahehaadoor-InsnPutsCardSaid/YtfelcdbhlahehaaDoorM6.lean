/- Facts among what is held; stages; Bools of whatever is said. -/
import Derived.Test.YtfelcdbhlahehaaDoorM5
namespace Go.Sp
open Go.RowKit
/-- A Bool of whatever is said. -/
noncomputable abbrev bP (p : Prop) : Bool := @decide p (Classical.propDecidable p)
theorem bP_t {p : Prop} (h : p) : true = bP p := by simp [bP, h]
theorem bP_f {p : Prop} (h : ¬ p) : false = bP p := by simp [bP, h]
theorem bP_same {p q : Prop} (h : p ↔ q) : bP p = bP q := by simp [bP, h]
def stage (n : Nat) (a b c d : List HP) : List HP := if n = 0 then a else if n = 1 then b else if n = 2 then c else d
theorem stage_0 (a b c d : List HP) : stage 0 a b c d = a := rfl
theorem stage_1 (a b c d : List HP) : stage 1 a b c d = b := rfl
theorem stage_2 (a b c d : List HP) : stage 2 a b c d = c := rfl
theorem stage_3 (a b c d : List HP) : stage 3 a b c d = d := rfl
def Fact (p : Prop) : HP := fun _ => p
theorem fact_in {p : Prop} {L : List HP} (h : p) : Ent L (Fact p :: L) := fun _ _ hs => (hs.add h).swap
theorem fact_out {p : Prop} : ∀ k, Fact p k → p := fun _ h => h
theorem endM_1V {L0 : List HP} {P : Program} {N : Nat} {E : Env} {L : List HP} {r : Nat} {M : List HP} [h : Tk (pt r (.deferred (some []))) L M] {fn : Func} {a t : Nat} [T1 P t] {b : Nat} {v : Value} {cs : List Value} {bt : TypeId} {fz : Nat × Nat} (hr : fn.results = #[.cell a t]) (hv : Env.get E a = some (.pointer (some ⟨b, 0, none⟩))) [hb : HB M b (.cells cs.toArray bt fz)] (hg : cs[0]? = some v) (he : Ent M L0) :
    bodyQM P N fn (RetV v L0) .ret E [collected r] L := ⟨r, M, rfl, h.h, _, res_cell1 hr hv hg, _, he, rfl, rfl⟩
end Go.Sp
