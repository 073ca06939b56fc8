/- Regions that draw their order and write nothing: any order is as good as one. -/
import Derived.Test.YtejhdhmopiahhaaDoorSp13
import Derived.OrdersHeld
namespace Go.Sp
open Go.RowKit
section
variable {P : Program} {N : Nat} {E : Env} {D : List Deferred} {L : List HP} {Q : Post}
variable (P N) in
/-- An operation that leaves a value in its slot and does nothing else. -/
def JQ (o : Oper) (E : Env) (D : List Deferred) (L : List HP) (v : Value) : Prop := ∀ (F : HP) (a : Act), Rep N E D a → ∀ w, Sat w (F :: L) → (execOp a.eval o).run P w = .ok (.value v) w
variable (P N) in
def JH (ops : Array Oper) (fuel : Nat) (ls : List Bool) (E : Env) (D : List Deferred) (L : List HP) (Q : Post) : Prop :=
  ∀ (F : HP) (a : Act) (w : World), Rep N E D a → Sat w (F :: L) → wpAnyH P .any ops (lift N F Q) (fun w => Sat w (F :: L)) fuel ls.toArray a w
/-- A post that no panic meets. -/
class CalmQ (Q : Post) : Prop where h : ∀ ch E D L, ¬ Q (.panic ch) E D L
instance calm_thn (K : Env → List Deferred → List HP → Prop) (Q : Post) [h : CalmQ Q] : CalmQ (thn K Q) := ⟨fun ch E D L q => h.h ch E D L q⟩
instance calm_inB (id : Nat) (Q : Post) [h : CalmQ Q] : CalmQ (inB id Q) := ⟨fun ch E D L q => h.h ch E D L q⟩
instance calm_retV (fn : Func) (v : Value) (L0 : List HP) : CalmQ (bodyQ P N fn fun e L => ∃ L', Ent L L' ∧ RetV v L0 e L') := ⟨fun ch E D L q => by
  obtain ⟨_, L', _, h1, _⟩ := q
  cases h1⟩
instance calm_retE {α : Type} (fn : Func) (φ : α → Prop) (v : α → Value) (L0 : α → List HP) : CalmQ (bodyQ P N fn fun e L => ∃ L', Ent L L' ∧ RetE φ v L0 e L') := ⟨fun ch E D L q => by
  obtain ⟨_, L', _, x, _, h1, _⟩ := q
  cases h1⟩
theorem J_regionH [Mixed P] {id : Nat} {ops : Array Oper} (h : JH P N ops (cnt ops.toList) (flags ops.toList) E D L Q) : J P N none (.region id ops true) E D L Q := fun F a w hr hs => by
  refine (wpIn_wide (n := 0)).2 (wp_region_held (S := fun w => Sat w (F :: L)) Mixed.h ?_)
  have := h F a { w with drawn := w.drawn + 1 } hr (hs.world rfl)
  rw [flags_eq, cnt_eq, List.toArray_replicate, Array.length_toList] at this
  exact this
theorem JH_take [hc : CalmQ Q] {ops : Array Oper} {fuel : Nat} {ls : List Bool} (i : Nat) {o : Oper} {v : Value} (ho : ops.toList[i]? = some o) (hg : o.guard = none) (hs : Region.noSelect ops = true) (hf : Region.free .any ops ls.toArray i = true)
    (hr : (Region.ready .any ops ls.toArray).contains i = true) (hd : dok N o.dst = true) (hq : JQ P N o E D L v) (h : JH P N ops fuel (ls.set i true) (put E o.dst v) D L Q) : JH P N ops (fuel + 1) ls E D L Q := by
  intro F a w hrep hsat
  rw [Array.getElem?_toList] at ho
  refine wpAnyH_take (v := v) ho hs hf hr ?_ (.inl ⟨by simp [Region.wanted, hg], fun w hw => hq F a hrep w hw⟩) hsat ?_
  · rintro c a' w' ⟨E', D', L', q, _⟩
    exact absurd q (hc.h c E' D' L')
  · have := h F (a.put o.dst v) w (hrep.put hd v) hsat
    rw [List.setIfInBounds_toArray]
    exact this
theorem JH_end {ops : Array Oper} {fuel : Nat} {ls : List Bool} (hr : Region.ready .any ops ls.toArray = []) (h : Q .normal E D L) : JH P N ops fuel ls E D L Q :=
  fun F a w hrep hsat => wpAnyH_done hr ⟨E, D, L, h, hrep, hsat⟩ fuel
section
variable {d : Option Nat} {ty : TypeId} {pos : String} {after : Array Edge} {g : Option (Nat × Bool)}
theorem JQ_move {x : Operand} {v : Value} (hx : ev E x = some v) : JQ P N ⟨d, .move x, ty, pos, after, g⟩ E D L v := fun F a hr w hs => by simp [execOp, hr.eval hx]
theorem JQ_load {t : TypeId} [T1 P t] {x : Operand} {p : Addr} {v : Value} (hx : ev E x = some (.pointer (some p))) (hl : Lds L p v) : JQ P N ⟨d, .load t x, ty, pos, after, g⟩ E D L v := fun F a hr w hs => by
  simp [execOp, Instr.loadAt, Instr.sureAddr, hr.eval hx, loadVar, run_isAgg1 (P := P) (t := t), hl F w hs]
theorem JQ_field {s f off ft n : Nat} [TF P s f off ft n] {x : Operand} {b o : Nat} (hx : ev E x = some (.pointer (some ⟨b, o, none⟩))) : JQ P N ⟨d, .fieldAddr s x f, ty, pos, after, g⟩ E D L (.pointer (some ⟨b, o + off, none⟩)) := fun F a hr w hs => by
  obtain ⟨fs, fl, h1, h2, rfl, rfl, ⟨i, h3, h4⟩, h5⟩ := TF.h (P := P) (s := s) (f := f) (off := off) (ty := ft) (n := n)
  simp [execOp, Instr.fieldAt, hr.eval hx, run_underlying' h1, h2, Instr.sureAddr, fieldPlace, run_sizeOf' h3, h4, h5, addr_add]
theorem JQ_index {t e : TypeId} [TU P t (.slice e)] {z : Value} {n k : Nat} [TI P e z n k] {x y : Operand} {b o len cap j : Nat} {ik : IntKind} (hx : ev E x = some (.slice (some ⟨b, o, none⟩) len cap)) (hy : ev E y = some (.int ik (j : Int))) (hj : j < len) :
    JQ P N ⟨d, .indexAddr t x y, ty, pos, after, g⟩ E D L (.pointer (some ⟨b, o + j * n, none⟩)) := fun F a hr w hs => by
  obtain ⟨i, h1, h2, h3, h4⟩ := TI.h (P := P) (t := e) (z := z) (n := n) (b := k)
  have h5 : ¬ len ≤ j := by omega
  simp [execOp, Instr.indexAt, hr.eval hx, hr.eval hy, asIntOf, run_underlying' (TU.h (P := P) (t := t)), run_sizeOf' h1, h3, addr_add, h5]
theorem JQ_neI {x y : Operand} {m n : Int} {k : IntKind} {t u : TypeId} (hx : ev E x = some (.int k m)) (hy : ev E y = some (.int k n)) : JQ P N ⟨d, .binOp .neq t x y u, ty, pos, after, g⟩ E D L (.bool (decide (m ≠ n))) := fun F a hr w hs => by
  have : (m != n) = decide (m ≠ n) := by by_cases h : m = n <;> simp [h]
  simp [execOp, hr.eval hx, hr.eval hy, eqGuard, binOp, Op.intCmp, this]
theorem JQ_eqI {x y : Operand} {m n : Int} {k : IntKind} {t u : TypeId} (hx : ev E x = some (.int k m)) (hy : ev E y = some (.int k n)) : JQ P N ⟨d, .binOp .eql t x y u, ty, pos, after, g⟩ E D L (.bool (decide (m = n))) := fun F a hr w hs => by
  have : (m == n) = decide (m = n) := by by_cases h : m = n <;> simp [h]
  simp [execOp, hr.eval hx, hr.eval hy, eqGuard, binOp, Op.intCmp, this]
theorem JQ_len {x : Operand} {t e : TypeId} [TU P t (.slice e)] {p : Option Addr} {n c : Nat} (hx : ev E x = some (.slice p n c)) : JQ P N ⟨d, .call ⟨.builtin .len, #[x], #[t]⟩, ty, pos, after, g⟩ E D L (.int .i64 (n : Int)) := fun F a hr w hs => by
  simp [execOp, resolve, invoke, builtin, Builtin.len_, hr.eval hx, run_underlying' TU.h, goInt]
end
theorem vw_base {sz n cap : Nat} {p : Option Addr} {cs : List Value} (hn : 0 < n) (k : Part) (h : Vw sz (.slice p n cap) n cs k) : ∃ b o, p = some ⟨b, o, none⟩ := by
  obtain ⟨_, _, p', cap', h2, h3⟩ := h
  cases h2
  obtain ⟨b, o, _, _, _, h4, _⟩ := h3.resolve_left (by omega)
  exact ⟨b, o, h4⟩
theorem lds_vw {n cap b o j : Nat} {cs : List Value} {u : Value} [hv : HV L (.slice (some ⟨b, o, none⟩) n cap) 1 n cs] (hj : j < n) (hu : cs[j]? = some u) : Lds L ⟨b, o + j * 1, none⟩ u := fun F' w' hs' => by
  obtain ⟨M', hM'⟩ := hv.h F' w' hs'
  obtain ⟨kk', ⟨_, _, _, hle', _, hV', _⟩, m'⟩ := hM'
  obtain ⟨_, _, p'', cap'', h2', h3'⟩ := hV'
  cases h2'
  obtain ⟨b', o', all', e'', fz', hb', h5', h6'⟩ := h3'.resolve_left (by omega)
  cases hb'
  rw [Nat.mul_one]
  exact cell_of (at_obj (m' _ _ (hle' _ _ h5'))) (h6' _ _ hu)
end
end Go.Sp
