/- Structs of numbers and flags, compared. -/
import Derived.Test.YtickblndgihoeaaGreatDoorM8
import Derived.Test.YtickblndgihoeaaGreatDoorM7
import Derived.ChangeKeysEq
namespace Go.Sp
open Go.RowKit
class FT (P : Program) (t : TypeId) (l : outParam (List (TypeId × Nat))) : Prop where h : P.underlying t = some (.struct (P.fieldsOf t)) ∧ P.stoodInHeld t = false ∧ P.eqGuardType P.depth t = false ∧ (P.fieldsOf t).toList.map (fun f => (f.name == "_", f.type, f.offset)) = l.map fun x => (false, x.1, x.2)
def isStructB (P : Program) (t : TypeId) : Bool := match P.underlying t with | some (.struct _) => true | _ => false
theorem FT.mk' {P : Program} {t : TypeId} {l : List (TypeId × Nat)} (h1 : isStructB P t = true) (h2 : P.stoodInHeld t = false) (h3 : P.eqGuardType P.depth t = false) (h4 : (P.fieldsOf t).toList.map (fun f => (f.name == "_", f.type, f.offset)) = l.map fun x => (false, x.1, x.2)) : FT P t l :=
  ⟨by
    unfold isStructB at h1
    cases h : P.underlying t with
    | none => rw [h] at h1;cases h1
    | some d => cases d <;> simp [h] at h1 <;> simp [Program.fieldsOf,h],h2,h3,h4⟩
section
variable {P : Program} {w : World}
def FieldIs (P : Program) (xs ys : Array Value) (t : TypeId) (o d : Nat) (r : Bool) : Prop := ∀ w : World,∃ a b,(part t xs o).run P w = .ok a w ∧ (part t ys o).run P w = .ok b w ∧ (Op.equalIn d t a b).run P w = .ok r w
theorem run_eqF (d : Nat) (xs ys : Array Value) : ∀ (fs : List Field) (l : List (TypeId × Nat)) (rs : List Bool), fs.map (fun f => (f.name == "_", f.type, f.offset)) = l.map (fun x => (false, x.1, x.2)) → l.length = rs.length → (∀ (i : Nat) t o r, l[i]? = some (t, o) → rs[i]? = some r → FieldIs P xs ys t o d r) → ∀ w, (Op.eqFields d xs ys fs).run P w = .ok (rs.all id) w
  | [],[],[],_,_,_,w => by simp [Op.eqFields]
  | f :: fs,(t,o) :: l,r :: rs,hm,hl,hr,w => by
    simp only [List.map_cons,List.cons.injEq,Prod.mk.injEq] at hm
    obtain ⟨⟨h1,h2,h3⟩,hm⟩ := hm
    have ih := run_eqF d xs ys fs l rs hm (by simpa using hl) (fun i t o r h g => hr (i + 1) t o r (by simpa using h) (by simpa using g)) w
    obtain ⟨a,b,ha,hb,he⟩ := hr 0 t o r rfl rfl w
    have hne : f.name ≠ "_" := by simpa using h1
    rw [← h2,← h3] at ha hb
    rw [← h2] at he
    unfold Op.eqFields
    rw [if_pos hne]
    cases r with
    | true => simp [ha,hb,he,ih]
    | false => simp [ha,hb,he]
theorem run_eqT {t : TypeId} {l : List (TypeId × Nat)} [h : FT P t l] (d : Nat) (xs ys : Array Value) (rs : List Bool) (hl : l.length = rs.length) (hr : ∀ (i : Nat) u o r,l[i]? = some (u,o) → rs[i]? = some r → FieldIs P xs ys u o d r) (w : World) : (Op.equalIn (d + 1) t (.agg xs) (.agg ys)).run P w = .ok (rs.all id) w := by
  rw [run_equalIn_agg w d t xs ys h.h.1 h.h.2.1]
  exact run_eqF d xs ys _ l rs h.h.2.2.2 hl hr w
theorem field_int {t : TypeId} {k : IntKind} [h : TU P t (.int k)] {xs ys : Array Value} {o d : Nat} {q q' : IntKind} {a b : Int} (hx : xs[o]? = some (.int q a)) (hy : ys[o]? = some (.int q b)) : FieldIs P xs ys t o (d + 1) (a == b) := fun w =>
  ⟨_,_,run_part_plain w (by simp [Program.plainKey,h.h]) hx,run_part_plain w (by simp [Program.plainKey,h.h]) hy,run_equalIn_int w d t q k a b h.h⟩
theorem field_bool {t : TypeId} [h : TU P t .bool] {xs ys : Array Value} {o d : Nat} {a b : Bool} (hx : xs[o]? = some (.bool a)) (hy : ys[o]? = some (.bool b)) : FieldIs P xs ys t o (d + 1) (a == b) := fun w =>
  ⟨_,_,run_part_plain w (by simp [Program.plainKey,h.h]) hx,run_part_plain w (by simp [Program.plainKey,h.h]) hy,run_equalIn_bool' w d t a b h.h⟩
theorem field_agg {t n : TypeId} [h : TA P t n] {xs ys us vs : Array Value} {o d : Nat} {r : Bool} (hx : xs.extract o (o + n) = us) (hy : ys.extract o (o + n) = vs) (he : ∀ w,(Op.equalIn d t (.agg us) (.agg vs)).run P w = .ok r w) : FieldIs P xs ys t o d r := fun w => by
  obtain ⟨⟨dd,hu,hd⟩,i,hi,hs⟩ := h.h
  have hz : (sizeOf t).run P w = .ok n w := by rw [vK hi,hs]
  refine ⟨.agg us,.agg vs,?_,?_,he w⟩ <;> rcases hd with ⟨fs,rfl⟩ | ⟨k,e,rfl⟩ <;> simp [part,isAgg,run_underlying hu,hz,hx,hy]
theorem run_eqV {t : TypeId} {l : List (TypeId × Nat)} [h : FT P t l] (xs ys : Array Value) {r : Bool} (he : ∀ w,(Op.equalIn 10000 t (.agg xs) (.agg ys)).run P w = .ok r w) (x y : Operand) (w : World) :
    ((eqGuard .eql t x y (.agg xs) (.agg ys)).run P w = .ok () w ∧ (binOp .eql t (.agg xs) (.agg ys)).run P w = .ok (.bool r) w) ∧ (eqGuard .neq t x y (.agg xs) (.agg ys)).run P w = .ok () w ∧ (binOp .neq t (.agg xs) (.agg ys)).run P w = .ok (.bool (!r)) w := by
  refine ⟨⟨run_eqGuard_agg w _ _ _ _ _ _ h.h.2.2.1,?_⟩,run_eqGuard_agg w _ _ _ _ _ _ h.h.2.2.1,?_⟩
  · rw [run_eql_struct,he w];rfl
  · rw [run_neq_struct,he w];rfl
end
section
variable {P : Program} {N : Nat} {E : Env} {D : List Deferred} {L : List HP} {d : Option Nat} {ty : TypeId} {pos : String} {after : Array Edge} {g : Option (Nat × Bool)}
theorem JQ_eqAgg {x y : Operand} {t u : TypeId} {l : List (TypeId × Nat)} [h : FT P t l] {xs ys : List Value} {r : Bool} (hx : ev E x = some (.agg xs.toArray)) (hy : ev E y = some (.agg ys.toArray)) (he : ∀ w,(Op.equalIn 10000 t (.agg xs.toArray) (.agg ys.toArray)).run P w = .ok r w) :
    JQ P N ⟨d,.binOp .eql t x y u,ty,pos,after,g⟩ E D L (.bool r) := fun F a hr w hs => by
  have e1 := hr.eval hx
  have e2 := hr.eval hy
  have h1 := (run_eqV xs.toArray ys.toArray he x y w).1
  simp [execOp,e1,e2,h1.1,h1.2]
theorem JQ_neAgg {x y : Operand} {t u : TypeId} {l : List (TypeId × Nat)} [h : FT P t l] {xs ys : List Value} {r : Bool} (hx : ev E x = some (.agg xs.toArray)) (hy : ev E y = some (.agg ys.toArray)) (he : ∀ w,(Op.equalIn 10000 t (.agg xs.toArray) (.agg ys.toArray)).run P w = .ok r w) :
    JQ P N ⟨d,.binOp .neq t x y u,ty,pos,after,g⟩ E D L (.bool (!r)) := fun F a hr w hs => by
  have e1 := hr.eval hx
  have e2 := hr.eval hy
  have h1 := (run_eqV xs.toArray ys.toArray he x y w).2
  simp [execOp,e1,e2,h1.1,h1.2]
theorem eq_ii {t a b : TypeId} {k q : IntKind} [FT P t [(a,0),(b,1)]] [TU P a (.int k)] [TU P b (.int q)] {u v : IntKind} (m n m' n' : Int) (e : Nat) (w : World) : (Op.equalIn (e + 2) t (.agg #[.int u m,.int v n]) (.agg #[.int u m',.int v n'])).run P w = .ok ((m == m') && (n == n')) w := by
  have := run_eqT (P := P) (t := t) (e + 1) #[.int u m,.int v n] #[.int u m',.int v n'] [m == m',n == n'] rfl (fun i y o r h1 h2 => by
    rcases i with _ | _ | i
    · cases h1;cases h2;exact field_int (q' := u) rfl rfl
    · cases h1;cases h2;exact field_int (q' := v) rfl rfl
    · simp at h1) w
  rw [this]
  simp
end
end Go.Sp
