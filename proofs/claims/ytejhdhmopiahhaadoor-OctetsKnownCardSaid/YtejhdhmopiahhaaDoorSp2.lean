/- The rules of operations: numbers, tests, variables, fields, calls. Types and functions of a program are told by instances. -/
import Derived.Test.YtejhdhmopiahhaaDoorSp1
import Derived.WalkKit
namespace Go.Sp
open Go.RowKit

/-! ### Facts on a program, found by instances -/
class TU (P : Program) (t : TypeId) (d : outParam TypeDesc) : Prop where h : P.underlying t = some d
class TI (P : Program) (t : TypeId) (z : outParam Value) (n b : outParam Nat) : Prop where h : ∃ i, P.info? t = some i ∧ i.zero = some z ∧ i.size = n ∧ i.bytes = b
class TF (P : Program) (s f : Nat) (off ty n : outParam Nat) : Prop where h : ∃ fs g, P.underlying s = some (.struct fs) ∧ fs[f]? = some g ∧ g.offset = off ∧ g.type = ty ∧ (∃ i, P.info? ty = some i ∧ i.size = n) ∧ n ≠ 0
class CF (P : Program) (f : FuncId) : Prop where h : ∀ (args : Array Value) (w : World), (callFunc f args).run P w = .ok (.enter f args) w
/-- A type whose variables are one cell. -/
class T1 (P : Program) (t : TypeId) : Prop where h : ∃ d, P.underlying t = some d ∧ (∀ fs, d ≠ .struct fs) ∧ (∀ n e, d ≠ .array n e)
/-- A struct or an array, of n cells. -/
class TA (P : Program) (t : TypeId) (n : outParam Nat) : Prop where h : (∃ d, P.underlying t = some d ∧ ((∃ fs, d = .struct fs) ∨ ∃ k e, d = .array k e)) ∧ ∃ i, P.info? t = some i ∧ i.size = n

def fieldFact (P : Program) (s f : Nat) : Option (Nat × Nat × Nat) :=
  match P.underlying s with
  | some (.struct fs) => match fs[f]? with
    | some g => (P.info? g.type).map fun i => (g.offset, g.type, i.size)
    | none => none
  | _ => none
def isOne (P : Program) (t : TypeId) : Bool := match P.underlying t with | some (.struct _) | some (.array _ _) | none => false | some _ => true
def aggFact (P : Program) (t : TypeId) : Option Nat := match P.underlying t with | some (.struct _) | some (.array _ _) => (P.info? t).map (·.size) | _ => none
def structFields (P : Program) (t : TypeId) : Array Field := match P.underlying t with | some (.struct fs) => fs | _ => #[]
theorem TI.mk' {P : Program} {t : TypeId} {z : Value} {n b : Nat} (h : (P.info? t).map (fun i => (i.zero, i.size, i.bytes)) = some (some z, n, b)) : TI P t z n b := ⟨by
  cases hi : P.info? t with
  | none => rw [hi] at h; cases h
  | some i => rw [hi] at h; simp at h; exact ⟨i, rfl, h.1, h.2.1, h.2.2⟩⟩
theorem TF.mk' {P : Program} {s f off ty n : Nat} (h : fieldFact P s f = some (off, ty, n)) (hn : (n == 0) = false) : TF P s f off ty n := ⟨by
  unfold fieldFact at h
  split at h
  · rename_i fs hfs
    split at h
    · rename_i g hg
      cases hi : P.info? g.type with
      | none => rw [hi] at h; cases h
      | some i =>
        rw [hi] at h
        simp at h
        obtain ⟨rfl, rfl, rfl⟩ := h
        exact ⟨fs, g, hfs, hg, rfl, rfl, ⟨i, hi, rfl⟩, by simpa using hn⟩
    · cases h
  · cases h⟩
theorem T1.mk' {P : Program} {t : TypeId} (h : isOne P t = true) : T1 P t := ⟨by
  unfold isOne at h
  split at h
  · cases h
  · cases h
  · cases h
  · rename_i d h1 h2 hd
    exact ⟨d, hd, fun fs e => h1 fs e, fun n e k => h2 n e k⟩⟩
theorem TA.mk' {P : Program} {t : TypeId} {n : Nat} (h : aggFact P t = some n) : TA P t n := ⟨by
  unfold aggFact at h
  split at h
  · rename_i fs hfs
    cases hi : P.info? t with
    | none => rw [hi] at h; cases h
    | some i => rw [hi] at h; simp at h; exact ⟨⟨_, hfs, .inl ⟨_, rfl⟩⟩, i, rfl, h⟩
  · rename_i k e hfs
    cases hi : P.info? t with
    | none => rw [hi] at h; cases h
    | some i => rw [hi] at h; simp at h; exact ⟨⟨_, hfs, .inr ⟨_, _, rfl⟩⟩, i, rfl, h⟩
  · cases h⟩
theorem CF.mk' {P : Program} {f : FuncId} {fn : Func} (hf : P.funcs[f]? = some fn) (hname : (fn.name == "runtime.NumGoroutine") = false) (hb : fn.body.isNone = false) : CF P f := ⟨fun args w => by
  have h1 : fn.name ≠ "runtime.NumGoroutine" := by simpa using hname
  cases hbd : fn.body with
  | none => simp [hbd] at hb
  | some c => simp [callFunc, hf, h1, hbd]⟩

theorem run_underlying' {P : Program} {t : TypeId} {d : TypeDesc} (h : P.underlying t = some d) (w : World) : (underlying t).run P w = .ok d w := by simp [underlying, h]
theorem run_typeInfo' {P : Program} {t : TypeId} {i : TypeInfo} (h : P.info? t = some i) (w : World) : (typeInfo t).run P w = .ok i w := by simp [typeInfo, h]
theorem run_sizeOf' {P : Program} {t : TypeId} {i : TypeInfo} (h : P.info? t = some i) (w : World) : (sizeOf t).run P w = .ok i.size w := by simp [sizeOf, run_typeInfo' h]
theorem run_zeroValue' {P : Program} {t : TypeId} {i : TypeInfo} {z : Value} (h : P.info? t = some i) (hz : i.zero = some z) (w : World) : (zeroValue t).run P w = .ok z w := by simp [zeroValue, run_typeInfo' h, hz]
theorem run_isAgg1 {P : Program} {t : TypeId} [T1 P t] (w : World) : (isAgg t).run P w = .ok false w := by
  obtain ⟨d, hd, h1, h2⟩ := T1.h (P := P) (t := t)
  cases d <;> simp_all [isAgg, underlying]
theorem run_isAggA {P : Program} {t : TypeId} {n : Nat} [TA P t n] (w : World) : (isAgg t).run P w = .ok true w := by
  obtain ⟨⟨d, hd, h⟩, _⟩ := TA.h (P := P) (t := t) (n := n)
  rcases h with ⟨fs, rfl⟩ | ⟨k, e, rfl⟩ <;> simp [isAgg, underlying, hd]

section
variable {P : Program} {N : Nat} {rd : Option Nat} {E : Env} {D : List Deferred} {L : List HP} {Q : Post} {next : Env → List Deferred → List HP → Prop}
variable {d : Option Nat} {ty : TypeId} {pos : String} {after : Array Edge} {g : Option (Nat × Bool)}

/-- An operation that reckons, and leaves the world as it is. -/
theorem JO_pure {o : Oper} (v : Value) (hnd : ∀ c, o.op ≠ .defer c) (hd : dok N o.dst = true) (h : ∀ (a : Act) (w : World), Rep N E D a → (execOp a.eval o).run P w = .ok (.value v) w)
    (hn : next (put E o.dst v) D L) : JO P N rd o E D L next Q :=
  JO_value hnd hd fun F a w hr hs => ⟨v, w, L, h a w hr, hs, hn⟩

/-- Splitting on a bool in a slot. -/
theorem JL_split {all : Array Oper} {i : Nat} {rest : List Oper} (t : Nat) {b : Bool} (hb : Env.get E t = some (.bool b))
    (h1 : b = true → JL P N rd all i rest ((t, .bool true) :: E) D L Q) (h2 : b = false → JL P N rd all i rest ((t, .bool false) :: E) D L Q) : JL P N rd all i rest E D L Q := by
  cases b with
  | true => exact JL_env (sub_cons hb (Sub.refl E)) (h1 rfl)
  | false => exact JL_env (sub_cons hb (Sub.refl E)) (h2 rfl)
theorem JL_splitP {all : Array Oper} {i : Nat} {rest : List Oper} (t : Nat) {p : Prop} {_ : Decidable p} (hb : Env.get E t = some (.bool (decide p)))
    (h1 : p → JL P N rd all i rest ((t, .bool true) :: E) D L Q) (h2 : ¬ p → JL P N rd all i rest ((t, .bool false) :: E) D L Q) : JL P N rd all i rest E D L Q :=
  JL_split t hb (fun h => h1 (of_decide_eq_true h)) (fun h => h2 (of_decide_eq_false h))

theorem JO_move {x : Operand} {v : Value} (hx : ev E x = some v) (hd : dok N d = true) (h : next (put E d v) D L) : JO P N rd ⟨d, .move x, ty, pos, after, g⟩ E D L next Q :=
  JO_pure v (fun c => by simp) hd (fun a w hr => by simp [execOp, hr.eval hx]) h
theorem JO_assign {x : Operand} {v : Value} (hx : ev E x = some v) (hd : dok N d = true) (h : next (put E d v) D L) : JO P N rd ⟨d, .assign x, ty, pos, after, g⟩ E D L next Q :=
  JO_pure v (fun c => by simp) hd (fun a w hr => by simp [execOp, hr.eval hx]) h
theorem JO_pickT {c x y : Operand} {v : Value} (hc : ev E c = some (.bool true)) (hx : ev E x = some v) (hd : dok N d = true) (h : next (put E d v) D L) : JO P N rd ⟨d, .pick c x y, ty, pos, after, g⟩ E D L next Q :=
  JO_pure v (fun c => by simp) hd (fun a w hr => by simp [execOp, hr.eval hc, hr.eval hx, asBool]) h
theorem JO_pickF {c x y : Operand} {v : Value} (hc : ev E c = some (.bool false)) (hx : ev E y = some v) (hd : dok N d = true) (h : next (put E d v) D L) : JO P N rd ⟨d, .pick c x y, ty, pos, after, g⟩ E D L next Q :=
  JO_pure v (fun c => by simp) hd (fun a w hr => by simp [execOp, hr.eval hc, hr.eval hx, asBool]) h
theorem JO_not {x : Operand} {t : TypeId} {b : Bool} (hx : ev E x = some (.bool b)) (hd : dok N d = true) (h : next (put E d (.bool (!b))) D L) : JO P N rd ⟨d, .unOp .not t x, ty, pos, after, g⟩ E D L next Q :=
  JO_pure _ (fun c => by simp) hd (fun a w hr => by simp [execOp, hr.eval hx, Op.unary]) h
theorem JO_notP {x : Operand} {t : TypeId} {p : Prop} {_ : Decidable p} (hx : ev E x = some (.bool (decide p))) (hd : dok N d = true) (h : next (put E d (.bool (decide (¬ p)))) D L) : JO P N rd ⟨d, .unOp .not t x, ty, pos, after, g⟩ E D L next Q :=
  JO_pure _ (fun c => by simp) hd (fun a w hr => by simp [execOp, hr.eval hx, Op.unary]) h
def lget : List Value → Nat → Option Value
  | [], _ => none
  | v :: _, 0 => some v
  | _ :: l, i + 1 => lget l i
theorem lget_eq : ∀ (l : List Value) (i : Nat), lget l i = l[i]?
  | [], _ => by simp [lget]
  | _ :: _, 0 => rfl
  | _ :: l, i + 1 => by simp [lget, lget_eq l i]
theorem JO_extract {x : Operand} {vs : List Value} {k : Nat} {v : Value} (hx : ev E x = some (.tuple vs.toArray)) (hk : lget vs k = some v) (hd : dok N d = true) (h : next (put E d v) D L) : JO P N rd ⟨d, .extract x k, ty, pos, after, g⟩ E D L next Q :=
  JO_pure v (fun c => by simp) hd (fun a w hr => by rw [lget_eq] at hk; simp [execOp, hr.eval hx, Instr.extract, hk]) h

/-! ### int -/
theorem wrap_in {z : Int} (h : -9223372036854775808 ≤ z ∧ z ≤ 9223372036854775807) : IntKind.i64.wrap z = z := by
  rw [IntKind.wrap_i64]; omega
section ints
variable {x y : Operand} {m n : Int} {t u : TypeId} {k : IntKind}
theorem JO_addW (hx : ev E x = some (.int k m)) (hy : ev E y = some (.int k n)) (hd : dok N d = true) (h : next (put E d (.int k (k.wrap (m + n)))) D L) : JO P N rd ⟨d, .binOp .add t x y u, ty, pos, after, g⟩ E D L next Q :=
  JO_pure _ (fun c => by simp) hd (fun a w hr => by simp [execOp, hr.eval hx, hr.eval hy, eqGuard, binOp, Op.intArith]) h
theorem JO_subW (hx : ev E x = some (.int k m)) (hy : ev E y = some (.int k n)) (hd : dok N d = true) (h : next (put E d (.int k (k.wrap (m - n)))) D L) : JO P N rd ⟨d, .binOp .sub t x y u, ty, pos, after, g⟩ E D L next Q :=
  JO_pure _ (fun c => by simp) hd (fun a w hr => by simp [execOp, hr.eval hx, hr.eval hy, eqGuard, binOp, Op.intArith]) h
theorem JO_mulW (hx : ev E x = some (.int k m)) (hy : ev E y = some (.int k n)) (hd : dok N d = true) (h : next (put E d (.int k (k.wrap (m * n)))) D L) : JO P N rd ⟨d, .binOp .mul t x y u, ty, pos, after, g⟩ E D L next Q :=
  JO_pure _ (fun c => by simp) hd (fun a w hr => by simp [execOp, hr.eval hx, hr.eval hy, eqGuard, binOp, Op.intArith]) h
theorem JO_add (hx : ev E x = some (.int .i64 m)) (hy : ev E y = some (.int .i64 n)) (hb : -9223372036854775808 ≤ m + n ∧ m + n ≤ 9223372036854775807) (hd : dok N d = true) (h : next (put E d (.int .i64 (m + n))) D L) :
    JO P N rd ⟨d, .binOp .add t x y u, ty, pos, after, g⟩ E D L next Q := JO_addW hx hy hd (by rw [wrap_in hb]; exact h)
theorem JO_sub (hx : ev E x = some (.int .i64 m)) (hy : ev E y = some (.int .i64 n)) (hb : -9223372036854775808 ≤ m - n ∧ m - n ≤ 9223372036854775807) (hd : dok N d = true) (h : next (put E d (.int .i64 (m - n))) D L) :
    JO P N rd ⟨d, .binOp .sub t x y u, ty, pos, after, g⟩ E D L next Q := JO_subW hx hy hd (by rw [wrap_in hb]; exact h)
theorem JO_mul (hx : ev E x = some (.int .i64 m)) (hy : ev E y = some (.int .i64 n)) (hb : -9223372036854775808 ≤ m * n ∧ m * n ≤ 9223372036854775807) (hd : dok N d = true) (h : next (put E d (.int .i64 (m * n))) D L) :
    JO P N rd ⟨d, .binOp .mul t x y u, ty, pos, after, g⟩ E D L next Q := JO_mulW hx hy hd (by rw [wrap_in hb]; exact h)
/-- A counter: a cast of a Nat, one more. -/
theorem JO_addN {a b : Nat} (hx : ev E x = some (.int .i64 (a : Int))) (hy : ev E y = some (.int .i64 (b : Int))) (hb : a + b ≤ 9223372036854775807) (hd : dok N d = true) (h : next (put E d (.int .i64 ((a + b : Nat) : Int))) D L) :
    JO P N rd ⟨d, .binOp .add t x y u, ty, pos, after, g⟩ E D L next Q := JO_add hx hy (by omega) hd (by rw [show ((a : Int) + (b : Int)) = ((a + b : Nat) : Int) from by omega]; exact h)
theorem JO_lss (hx : ev E x = some (.int k m)) (hy : ev E y = some (.int k n)) (hd : dok N d = true) (h : next (put E d (.bool (decide (m < n)))) D L) : JO P N rd ⟨d, .binOp .lss t x y u, ty, pos, after, g⟩ E D L next Q :=
  JO_pure _ (fun c => by simp) hd (fun a w hr => by simp [execOp, hr.eval hx, hr.eval hy, eqGuard, binOp, Op.intCmp]) h
theorem JO_leq (hx : ev E x = some (.int k m)) (hy : ev E y = some (.int k n)) (hd : dok N d = true) (h : next (put E d (.bool (decide (m ≤ n)))) D L) : JO P N rd ⟨d, .binOp .leq t x y u, ty, pos, after, g⟩ E D L next Q :=
  JO_pure _ (fun c => by simp) hd (fun a w hr => by simp [execOp, hr.eval hx, hr.eval hy, eqGuard, binOp, Op.intCmp]) h
theorem JO_gtr (hx : ev E x = some (.int k m)) (hy : ev E y = some (.int k n)) (hd : dok N d = true) (h : next (put E d (.bool (decide (n < m)))) D L) : JO P N rd ⟨d, .binOp .gtr t x y u, ty, pos, after, g⟩ E D L next Q :=
  JO_pure _ (fun c => by simp) hd (fun a w hr => by simp [execOp, hr.eval hx, hr.eval hy, eqGuard, binOp, Op.intCmp]) h
theorem JO_geq (hx : ev E x = some (.int k m)) (hy : ev E y = some (.int k n)) (hd : dok N d = true) (h : next (put E d (.bool (decide (n ≤ m)))) D L) : JO P N rd ⟨d, .binOp .geq t x y u, ty, pos, after, g⟩ E D L next Q :=
  JO_pure _ (fun c => by simp) hd (fun a w hr => by simp [execOp, hr.eval hx, hr.eval hy, eqGuard, binOp, Op.intCmp]) h
theorem JO_eqI (hx : ev E x = some (.int k m)) (hy : ev E y = some (.int k n)) (hd : dok N d = true) (h : next (put E d (.bool (decide (m = n)))) D L) : JO P N rd ⟨d, .binOp .eql t x y u, ty, pos, after, g⟩ E D L next Q :=
  JO_pure _ (fun c => by simp) hd (fun a w hr => by simp [execOp, hr.eval hx, hr.eval hy, eqGuard, binOp, Op.intCmp]; rfl) h
theorem JO_neI (hx : ev E x = some (.int k m)) (hy : ev E y = some (.int k n)) (hd : dok N d = true) (h : next (put E d (.bool (decide (m ≠ n)))) D L) : JO P N rd ⟨d, .binOp .neq t x y u, ty, pos, after, g⟩ E D L next Q :=
  JO_pure _ (fun c => by simp) hd (fun a w hr => by
    have : (m != n) = decide (m ≠ n) := by by_cases h : m = n <;> simp [h]
    simp [execOp, hr.eval hx, hr.eval hy, eqGuard, binOp, Op.intCmp, this]) h
end ints

/-! ### Built-in functions -/
theorem JO_len {x : Operand} {t e : TypeId} [TU P t (.slice e)] {p : Option Addr} {n c : Nat} (hx : ev E x = some (.slice p n c)) (hd : dok N d = true) (h : next (put E d (.int .i64 (n : Int))) D L) :
    JO P N rd ⟨d, .call ⟨.builtin .len, #[x], #[t]⟩, ty, pos, after, g⟩ E D L next Q :=
  JO_pure _ (fun c => by simp) hd (fun a w hr => by simp [execOp, resolve, invoke, builtin, Builtin.len_, hr.eval hx, run_underlying' TU.h, goInt]) h
theorem JO_lenS {x : Operand} {t : TypeId} [TU P t .string] {s : ByteArray} (hx : ev E x = some (.string s)) (hd : dok N d = true) (h : next (put E d (.int .i64 (s.size : Int))) D L) :
    JO P N rd ⟨d, .call ⟨.builtin .len, #[x], #[t]⟩, ty, pos, after, g⟩ E D L next Q :=
  JO_pure _ (fun c => by simp) hd (fun a w hr => by simp [execOp, resolve, invoke, builtin, Builtin.len_, hr.eval hx, run_underlying' TU.h, goInt]) h
theorem JO_min {x y : Operand} {ts : Array TypeId} {k : IntKind} {m n : Int} (hx : ev E x = some (.int k m)) (hy : ev E y = some (.int k n)) (hd : dok N d = true) (h : next (put E d (.int k (min m n))) D L) :
    JO P N rd ⟨d, .call ⟨.builtin .min, #[x, y], ts⟩, ty, pos, after, g⟩ E D L next Q :=
  JO_pure _ (fun c => by simp) hd (fun a w hr => by
    have h1 : (if n < m then n else m) = min m n := by omega
    simp [execOp, resolve, invoke, builtin, hr.eval hx, hr.eval hy, run_min_int2, h1]) h
theorem JO_max {x y : Operand} {ts : Array TypeId} {k : IntKind} {m n : Int} (hx : ev E x = some (.int k m)) (hy : ev E y = some (.int k n)) (hd : dok N d = true) (h : next (put E d (.int k (max m n))) D L) :
    JO P N rd ⟨d, .call ⟨.builtin .max, #[x, y], ts⟩, ty, pos, after, g⟩ E D L next Q :=
  JO_pure _ (fun c => by simp) hd (fun a w hr => by
    have h1 : (if m < n then n else m) = max m n := by omega
    simp [execOp, resolve, invoke, builtin, hr.eval hx, hr.eval hy, run_max_int2, h1]) h

/-! ### Making values -/
theorem JO_makeFunc {fn : Fn} {first captured : Array Operand} {vs us : List Value} (h1 : evs E first.toList = some vs) (h2 : evs E captured.toList = some us) (hd : dok N d = true)
    (h : next (put E d (.func fn vs.toArray us.toArray)) D L) : JO P N rd ⟨d, .makeFunc fn first captured, ty, pos, after, g⟩ E D L next Q :=
  JO_pure _ (fun c => by simp) hd (fun a w hr => by
    have e1 := hr.evals h1
    have e2 := hr.evals h2
    have e1' : first.map a.eval = vs.toArray := by rw [← e1]; apply Array.ext'; simp
    have e2' : captured.map a.eval = us.toArray := by rw [← e2]; apply Array.ext'; simp
    simp [execOp, Instr.makeFunc, e1', e2']) h
theorem JO_makeIface {t : TypeId} {x : Operand} {dd : TypeDesc} [TU P t dd] {v : Value} (hni : ∀ ms, dd ≠ .interface ms) (hx : ev E x = some v) (hd : dok N d = true) (h : next (put E d (.iface t v)) D L) :
    JO P N rd ⟨d, .makeInterface t x, ty, pos, after, g⟩ E D L next Q :=
  JO_pure _ (fun c => by simp) hd (fun a w hr => by
    have := run_underlying' (TU.h (P := P) (t := t) (d := dd)) w
    cases dd <;> simp_all [execOp, Instr.makeInterface, hr.eval hx]) h

/-! ### Variables -/
theorem JO_alloc {t : TypeId} {z : Value} {n b : Nat} [TI P t z n b] (hd : dok N d = true) (h : ∀ r, next (put E d (.pointer (some ⟨r, 0, none⟩))) D (pt r (.cells z.cells t (0, 0)) :: L)) :
    JO P N rd ⟨d, .alloc t, ty, pos, after, g⟩ E D L next Q :=
  JO_value (fun c => by simp) hd fun F a w hr hs => by
    obtain ⟨i, h1, h2, h3, h4⟩ := TI.h (P := P) (t := t) (z := z) (n := n) (b := b)
    exact ⟨_, _, _, by simp [execOp, Instr.alloc, run_zeroValue' h1 h2, newVar, newRow], (hs.new _).swap, h _⟩
theorem JO_allocA {t : TypeId} {cs : Array Value} {n b : Nat} [TI P t (.agg cs) n b] (hd : dok N d = true) (h : ∀ r, next (put E d (.pointer (some ⟨r, 0, none⟩))) D (pt r (.cells cs t (0, 0)) :: L)) :
    JO P N rd ⟨d, .alloc t, ty, pos, after, g⟩ E D L next Q := JO_alloc (z := .agg cs) hd h
theorem JO_alloc1 {t : TypeId} {z : Value} {n b : Nat} [TI P t z n b] (hz : z.cells = #[z]) (hd : dok N d = true) (h : ∀ r, next (put E d (.pointer (some ⟨r, 0, none⟩))) D (pt r (.cells #[z] t (0, 0)) :: L)) :
    JO P N rd ⟨d, .alloc t, ty, pos, after, g⟩ E D L next Q := JO_alloc hd fun r => by rw [hz]; exact h r
theorem JO_box {t : TypeId} {x : Operand} {v : Value} (hx : ev E x = some v) (hd : dok N d = true) (h : ∀ r, next (put E d (.pointer (some ⟨r, 0, none⟩))) D (pt r (.cells v.cells t (0, 0)) :: L)) :
    JO P N rd ⟨d, .box t x, ty, pos, after, g⟩ E D L next Q :=
  JO_value (fun c => by simp) hd fun F a w hr hs => by
    exact ⟨_, _, _, by simp [execOp, Instr.box, hr.eval hx, newVar, newRow], (hs.new _).swap, h _⟩
theorem JO_boxA {t : TypeId} {x : Operand} {cs : Array Value} (hx : ev E x = some (.agg cs)) (hd : dok N d = true) (h : ∀ r, next (put E d (.pointer (some ⟨r, 0, none⟩))) D (pt r (.cells cs t (0, 0)) :: L)) :
    JO P N rd ⟨d, .box t x, ty, pos, after, g⟩ E D L next Q := JO_box hx hd h
theorem JO_box1 {t : TypeId} {x : Operand} {v : Value} (hx : ev E x = some v) (hv : v.cells = #[v]) (hd : dok N d = true) (h : ∀ r, next (put E d (.pointer (some ⟨r, 0, none⟩))) D (pt r (.cells #[v] t (0, 0)) :: L)) :
    JO P N rd ⟨d, .box t x, ty, pos, after, g⟩ E D L next Q := JO_box hx hd fun r => by rw [hv]; exact h r

/-- A block, found in a list. -/
class HB (L : List HP) (b : Nat) (o : outParam Obj) : Prop where h : ∀ (F : HP) (w : World), Sat w (F :: L) → w.heap[b]? = some o
instance hb_pt (b : Nat) (o : Obj) (L : List HP) : HB (pt b o :: L) b o := ⟨fun _ _ hs => hs.tail.pt_heap⟩
instance hb_ro (b : Nat) (o : Obj) (L : List HP) : HB (ro b o :: L) b o := ⟨fun _ _ hs => hs.tail.ro_heap⟩
instance (priority := low) hb_tail (A : HP) (b : Nat) (o : Obj) (L : List HP) [h : HB L b o] : HB (A :: L) b o := ⟨fun _ _ hs => h.h A _ hs.tail⟩
/-- A block, found in a list, to be written. -/
class WB (L : List HP) (b : Nat) (o : outParam Obj) (L' : outParam (Obj → List HP)) : Prop where h : ∀ (F : HP) (w : World), Sat w (F :: L) → w.heap[b]? = some o ∧ ∀ o', Sat (setObj w b o') (F :: L' o')
instance wb_pt (b : Nat) (o : Obj) (L : List HP) : WB (pt b o :: L) b o (fun o' => pt b o' :: L) := ⟨fun _ _ hs => ⟨hs.tail.pt_heap, fun o' => (hs.swap.set_pt o').swap⟩⟩
instance (priority := low) wb_tail (A : HP) (b : Nat) (o : Obj) (L : List HP) (L' : Obj → List HP) [h : WB L b o L'] : WB (A :: L) b o (fun o' => A :: L' o') := ⟨fun F w hs => by
  have h1 : Sat w (Star [F, A] :: L) := (Sat.fold (L1 := [F, A])).1 hs
  obtain ⟨h2, h3⟩ := h.h _ w h1
  exact ⟨h2, fun o' => (Sat.fold (L1 := [F, A])).2 (h3 o')⟩⟩

/-- A list's place, set. -/
class SetAt (l : List Value) (i : Nat) (v : Value) (l' : outParam (List Value)) : Prop where h : l.set i v = l' ∧ i < l.length
instance setAt_zero (a v : Value) (l : List Value) : SetAt (a :: l) 0 v (v :: l) := ⟨rfl, by simp⟩
instance setAt_succ (a v : Value) (l l' : List Value) (i : Nat) [h : SetAt l i v l'] : SetAt (a :: l) (i + 1) v (a :: l') := ⟨by simp [h.h.1], by simpa using h.h.2⟩
class GetAt (l : List Value) (i : Nat) (v : outParam Value) : Prop where h : l[i]? = some v
instance getAt_zero (a : Value) (l : List Value) : GetAt (a :: l) 0 a := ⟨rfl⟩
instance getAt_succ (a v : Value) (l : List Value) (i : Nat) [h : GetAt l i v] : GetAt (a :: l) (i + 1) v := ⟨by simpa using h.h⟩

theorem cell_of {w : World} {b off : Nat} {cs : List Value} {t : TypeId} {fz : Nat × Nat} {v : Value} (h : w.heap[b]? = some (.cells cs.toArray t fz)) (hv : cs[off]? = some v) : w.cell? ⟨b, off, none⟩ = some v := by
  simp [World.cell?, h, hv]

/-- What a place in memory reads as. -/
def Lds (L : List HP) (a : Addr) (v : Value) : Prop := ∀ (F : HP) (w : World), Sat w (F :: L) → w.cell? a = some v
theorem lds_block {b off : Nat} {cs : List Value} {t : TypeId} {fz : Nat × Nat} {v : Value} [h : HB L b (.cells cs.toArray t fz)] (hv : cs[off]? = some v) : Lds L ⟨b, off, none⟩ v := fun F w hs => cell_of (h.h F w hs) hv

theorem JO_loadL {t : TypeId} [T1 P t] {x : Operand} {p : Addr} {v : Value} (hx : ev E x = some (.pointer (some p))) (hl : Lds L p v) (hd : dok N d = true) (h : next (put E d v) D L) :
    JO P N rd ⟨d, .load t x, ty, pos, after, g⟩ E D L next Q :=
  JO_value (fun c => by simp) hd fun F a w hr hs => ⟨v, w, L, by simp [execOp, Instr.loadAt, Instr.sureAddr, hr.eval hx, loadVar, run_isAgg1 (P := P) (t := t), hl F w hs], hs, h⟩
/-- A variable of one cell, or a field, of a block that is known cell by cell. -/
theorem JO_load {t : TypeId} [T1 P t] {x : Operand} {b off : Nat} {cs : List Value} {bt : TypeId} {fz : Nat × Nat} {v : Value} (hx : ev E x = some (.pointer (some ⟨b, off, none⟩))) [HB L b (.cells cs.toArray bt fz)] [hg : GetAt cs off v]
    (hd : dok N d = true) (h : next (put E d v) D L) : JO P N rd ⟨d, .load t x, ty, pos, after, g⟩ E D L next Q := JO_loadL hx (lds_block hg.h) hd h

theorem run_loadCells_block {w : World} {b off n : Nat} {cs : List Value} {t : TypeId} {fz : Nat × Nat} (h : w.heap[b]? = some (.cells cs.toArray t fz)) (hn : off + n ≤ cs.length) :
    (loadCells ⟨b, off, none⟩ n).run P w = .ok ((cs.drop off).take n).toArray w := by
  have := run_loadCells_list (P := P) (w := w) ⟨b, off, none⟩ ((cs.drop off).take n) (fun j v hj => by
    have hj' : cs[off + j]? = some v ∧ j < n := by
      rw [List.getElem?_take] at hj
      split at hj
      · rename_i hlt; exact ⟨by simpa using hj, hlt⟩
      · cases hj
    have : (⟨b, off, none⟩ : Addr).add j = ⟨b, off + j, none⟩ := by unfold Addr.add; split <;> simp_all
    rw [this]
    exact cell_of h hj'.1)
  have hlen : ((cs.drop off).take n).length = n := by simp; omega
  rw [hlen] at this
  exact this

theorem JO_loadA {t n : TypeId} [TA P t n] {x : Operand} {b off : Nat} {cs : List Value} {bt : TypeId} {fz : Nat × Nat} (hx : ev E x = some (.pointer (some ⟨b, off, none⟩))) [hb : HB L b (.cells cs.toArray bt fz)] (hn : off + n ≤ cs.length)
    (hd : dok N d = true) (h : next (put E d (.agg ((cs.drop off).take n).toArray)) D L) : JO P N rd ⟨d, .load t x, ty, pos, after, g⟩ E D L next Q :=
  JO_value (fun c => by simp) hd fun F a w hr hs => ⟨_, w, L, by
    obtain ⟨_, i, hi, hsz⟩ := TA.h (P := P) (t := t) (n := n)
    simp [execOp, Instr.loadAt, Instr.sureAddr, hr.eval hx, loadVar, run_isAggA (P := P) (t := t) (n := n), run_sizeOf' hi, hsz, run_loadCells_block (hb.h F w hs) hn], hs, h⟩
/-- A whole struct out of a variable of its own. -/
theorem JO_loadW {t n : TypeId} [TA P t n] {x : Operand} {b : Nat} {cs : List Value} {bt : TypeId} {fz : Nat × Nat} (hx : ev E x = some (.pointer (some ⟨b, 0, none⟩))) [hb : HB L b (.cells cs.toArray bt fz)] (hn : cs.length = n)
    (hd : dok N d = true) (h : next (put E d (.agg cs.toArray)) D L) : JO P N rd ⟨d, .load t x, ty, pos, after, g⟩ E D L next Q :=
  JO_loadA hx (by omega) hd (by rw [List.drop_zero, List.take_of_length_le (by omega)]; exact h)

theorem setCell_setObj {w : World} {b off : Nat} {cs : List Value} {t : TypeId} {fz : Nat × Nat} (h : w.heap[b]? = some (.cells cs.toArray t fz)) (v : Value) :
    w.setCell ⟨b, off, none⟩ v = setObj w b (.cells (cs.set off v).toArray t fz) := by
  unfold World.setCell setObj
  congr 1
  apply Array.ext_getElem?
  intro i
  obtain ⟨h3, h4⟩ := Array.getElem?_eq_some_iff.1 h
  by_cases hi : i = b
  · subst hi
    rw [Array.getElem?_modify, if_pos rfl, h, Array.getElem?_setIfInBounds_self_of_lt h3]
    simp
  · simp [Array.getElem?_modify, Ne.symm hi]

theorem run_storeCell {w : World} {b off : Nat} {cs : List Value} {t : TypeId} {v u : Value} (h : w.heap[b]? = some (.cells cs.toArray t (0, 0))) (hu : cs[off]? = some u) (hv : v.oneCell' = true) :
    (store ⟨b, off, none⟩ v).run P w = .ok () (setObj w b (.cells (cs.set off v).toArray t (0, 0))) := by
  rw [run_store _ _ _ _ _ hv, cell_of h hu]
  have : w.frozen? ⟨b, off, none⟩ = false := by simp [World.frozen?, h]
  simp [this, setCell_setObj h]

/-- A store of one cell into a block that is known cell by cell. -/
theorem JO_store {t : TypeId} {z : Value} {k : Nat} [TI P t z 1 k] {x y : Operand} {b off : Nat} {cs cs' : List Value} {bt : TypeId} {v : Value} {L' : Obj → List HP} (hx : ev E x = some (.pointer (some ⟨b, off, none⟩))) (hy : ev E y = some v)
    [hb : WB L b (.cells cs.toArray bt (0, 0)) L'] [hs : SetAt cs off v cs'] (hv : v.oneCell' = true) (hd : dok N d = true) (h : next (put E d undef) D (L' (.cells cs'.toArray bt (0, 0)))) : JO P N rd ⟨d, .store t x y, ty, pos, after, g⟩ E D L next Q :=
  JO_unit (fun c => by simp) hd fun F a w hr hs' => by
    obtain ⟨i, h1, h2, h3, h4⟩ := TI.h (P := P) (t := t) (z := z) (n := 1) (b := k)
    obtain ⟨hb1, hb2⟩ := hb.h F w hs'
    obtain ⟨e1, e2⟩ := hs.h
    have hc : v.cells = #[v] := by cases v <;> first | rfl | simp [Value.oneCell'] at hv
    have hst := run_storeCell (P := P) hb1 (List.getElem?_eq_getElem e2) hv
    rw [e1] at hst
    refine ⟨_, _, ?_, hb2 _, h⟩
    simp [execOp, Instr.storeAt, Instr.sureAddr, hr.eval hx, hr.eval hy, storeVar, hc, run_sizeOf' h1, h3, storeCells, Addr.add, hst]

theorem run_storeCells_all {t : TypeId} {b : Nat} : ∀ (vs pre post : List Value) (w : World), (∀ v ∈ vs, v.oneCell' = true) → ∀ old : List Value, old.length = vs.length → w.heap[b]? = some (.cells (pre ++ old ++ post).toArray t (0, 0)) →
    (storeCells ⟨b, 0, none⟩ vs pre.length).run P w = .ok () (setObj w b (.cells (pre ++ vs ++ post).toArray t (0, 0))) := by
  intro vs
  induction vs with
  | nil =>
    intro pre post w _ old ho hb
    have : old = [] := by simpa using ho
    subst this
    simp only [storeCells, Sem.run_pure, setObj]
    congr 1
    have : w.heap.setIfInBounds b (.cells (pre ++ [] ++ post).toArray t (0, 0)) = w.heap := by
      apply Array.ext_getElem?
      intro i
      by_cases hi : i = b
      · subst hi; obtain ⟨h2, h3⟩ := Array.getElem?_eq_some_iff.1 hb; simp only [List.append_nil] at h3; simp [h2, h3]
      · simp [Array.getElem?_setIfInBounds, Ne.symm hi]
    rw [this]
  | cons v vs ih =>
    intro pre post w hv old ho hb
    obtain ⟨o, old, rfl⟩ : ∃ o l, old = o :: l := by cases old with | nil => simp at ho | cons o l => exact ⟨o, l, rfl⟩
    have hadd : (⟨b, 0, none⟩ : Addr).add pre.length = ⟨b, pre.length, none⟩ := by unfold Addr.add; split <;> simp_all
    have hst := run_storeCell (P := P) (w := w) (v := v) (off := pre.length) (u := o) hb (by simp) (hv v (by simp))
    have hset : (pre ++ o :: old ++ post).set pre.length v = (pre ++ [v]) ++ old ++ post := by simp
    rw [hset] at hst
    have hb' : (setObj w b (.cells ((pre ++ [v]) ++ old ++ post).toArray t (0, 0))).heap[b]? = some (.cells ((pre ++ [v]) ++ old ++ post).toArray t (0, 0)) := by
      have h2 := Array.getElem?_eq_some_iff.1 hb; simp [setObj, h2.1]
    have := ih (pre ++ [v]) post _ (fun u hu => hv u (by simp [hu])) old (by simpa using ho) hb'
    simp only [storeCells, hadd, Sem.run_bind, hst, Result.andThen_ok]
    simp only [List.length_append, List.length_singleton] at this
    rw [this]
    simp [setObj]
/-- A whole struct into a variable of its own. -/
theorem JO_storeW {t : TypeId} {z : Value} {n k : Nat} [TI P t z n k] {x y : Operand} {b : Nat} {cs vs : List Value} {bt : TypeId} {L' : Obj → List HP} (hx : ev E x = some (.pointer (some ⟨b, 0, none⟩))) (hy : ev E y = some (.agg vs.toArray))
    [hb : WB L b (.cells cs.toArray bt (0, 0)) L'] (hn : vs.length = n) (hn' : cs.length = n) (hv : ∀ v ∈ vs, v.oneCell' = true) (hd : dok N d = true) (h : next (put E d undef) D (L' (.cells vs.toArray bt (0, 0)))) :
    JO P N rd ⟨d, .store t x y, ty, pos, after, g⟩ E D L next Q :=
  JO_unit (fun c => by simp) hd fun F a w hr hs' => by
    obtain ⟨i, h1, h2, h3, h4⟩ := TI.h (P := P) (t := t) (z := z) (n := n) (b := k)
    obtain ⟨hb1, hb2⟩ := hb.h F w hs'
    have hst := run_storeCells_all (P := P) (b := b) (t := bt) vs [] [] w hv cs (by omega) (by simpa using hb1)
    refine ⟨_, _, ?_, hb2 _, h⟩
    simp only [List.length_nil, List.nil_append, List.append_nil] at hst
    simp [execOp, Instr.storeAt, Instr.sureAddr, hr.eval hx, hr.eval hy, storeVar, Value.cells, run_sizeOf' h1, h3, hn, hst]

/-! ### Places -/
theorem addr_add {b o n : Nat} : (⟨b, o, none⟩ : Addr).add n = ⟨b, o + n, none⟩ := by unfold Addr.add; split <;> simp_all
theorem JO_field {s f off ft n : Nat} [TF P s f off ft n] {x : Operand} {b o : Nat} (hx : ev E x = some (.pointer (some ⟨b, o, none⟩))) (hd : dok N d = true) (h : next (put E d (.pointer (some ⟨b, o + off, none⟩))) D L) :
    JO P N rd ⟨d, .fieldAddr s x f, ty, pos, after, g⟩ E D L next Q :=
  JO_pure _ (fun c => by simp) hd (fun a w hr => by
    obtain ⟨fs, fl, h1, h2, rfl, rfl, ⟨i, h3, h4⟩, h5⟩ := TF.h (P := P) (s := s) (f := f) (off := off) (ty := ft) (n := n)
    simp [execOp, Instr.fieldAt, hr.eval hx, run_underlying' h1, h2, Instr.sureAddr, fieldPlace, run_sizeOf' h3, h4, h5, addr_add]) h
theorem JO_field0 {s f off ft n : Nat} [TF P s f off ft n] {x : Operand} {b : Nat} (hx : ev E x = some (.pointer (some ⟨b, 0, none⟩))) (hd : dok N d = true) (h : next (put E d (.pointer (some ⟨b, off, none⟩))) D L) :
    JO P N rd ⟨d, .fieldAddr s x f, ty, pos, after, g⟩ E D L next Q := JO_field hx hd (by rw [Nat.zero_add]; exact h)
theorem JO_index {t e : TypeId} [TU P t (.slice e)] {z : Value} {n k : Nat} [TI P e z n k] {x y : Operand} {b o len cap j : Nat} {ik : IntKind} (hx : ev E x = some (.slice (some ⟨b, o, none⟩) len cap)) (hy : ev E y = some (.int ik (j : Int))) (hj : j < len)
    (hd : dok N d = true) (h : next (put E d (.pointer (some ⟨b, o + j * n, none⟩))) D L) : JO P N rd ⟨d, .indexAddr t x y, ty, pos, after, g⟩ E D L next Q :=
  JO_pure _ (fun c => by simp) hd (fun a w hr => by
    obtain ⟨i, h1, h2, h3, h4⟩ := TI.h (P := P) (t := e) (z := z) (n := n) (b := k)
    have h5 : ¬ len ≤ j := by omega
    simp [execOp, Instr.indexAt, hr.eval hx, hr.eval hy, asIntOf, run_underlying' (TU.h (P := P) (t := t)), run_sizeOf' h1, h3, addr_add, h5]) h
theorem JO_index1 {t e : TypeId} [TU P t (.slice e)] {z : Value} {k : Nat} [TI P e z 1 k] {x y : Operand} {b len cap j : Nat} {ik : IntKind} (hx : ev E x = some (.slice (some ⟨b, 0, none⟩) len cap)) (hy : ev E y = some (.int ik (j : Int))) (hj : j < len)
    (hd : dok N d = true) (h : next (put E d (.pointer (some ⟨b, j, none⟩))) D L) : JO P N rd ⟨d, .indexAddr t x y, ty, pos, after, g⟩ E D L next Q :=
  JO_index hx hy hj hd (by simpa using h)

/-! ### Calls -/
theorem JO_call {f : FuncId} [hf : CF P f] {args : Array Operand} {ts : Array TypeId} {vs : List Value} {R : Ending → List HP → Prop} (hx : evs E args.toList = some vs) (hc : Ct P f vs.toArray L R) (hd : dok N d = true)
    (hv : ∀ v L', R (.returned v) L' → next (put E d v) D L') (hp : ∀ ch L', R (.panicked ch) L' → Q (.panic ch) E D L') : JO P N rd ⟨d, .call ⟨.value (.func f), args, ts⟩, ty, pos, after, g⟩ E D L next Q :=
  JO_enter (fun c => by simp) hd (fun a w hr => by
    have e : args.map a.eval = vs.toArray := by rw [← hr.evals hx]; apply Array.ext'; simp
    simp [execOp, resolve, e, Act.eval, Deferred.ofValue, invoke, hf.h]) hc hv hp
/-- A call of a function value: a closure. -/
theorem JO_callV {f : FuncId} [hf : CF P f] {x : Operand} {args : Array Operand} {ts : Array TypeId} {vs fs cs : List Value} {R : Ending → List HP → Prop} (hfv : ev E x = some (.func (.func f) fs.toArray cs.toArray)) (hx : evs E args.toList = some vs)
    (hc : Ct P f (fs ++ vs ++ cs).toArray L R) (hd : dok N d = true)
    (hv : ∀ v L', R (.returned v) L' → next (put E d v) D L') (hp : ∀ ch L', R (.panicked ch) L' → Q (.panic ch) E D L') : JO P N rd ⟨d, .call ⟨.value x, args, ts⟩, ty, pos, after, g⟩ E D L next Q :=
  JO_enter (fun c => by simp) hd (fun a w hr => by
    have e : args.map a.eval = vs.toArray := by rw [← hr.evals hx]; apply Array.ext'; simp
    simp [execOp, resolve, e, hr.eval hfv, Deferred.ofValue, invoke, hf.h]) hc hv hp

/-- Assertions taken out of a list. -/
class Tk (A : HP) (L : List HP) (M : outParam (List HP)) : Prop where h : L.Perm (A :: M)
instance tk_head (A : HP) (L : List HP) : Tk A (A :: L) L := ⟨.refl _⟩
instance (priority := low) tk_tail (A B : HP) (L M : List HP) [h : Tk A L M] : Tk A (B :: L) (B :: M) := ⟨(h.h.cons B).trans (List.Perm.swap _ _ _)⟩
class Sel (K L : List HP) (M : outParam (List HP)) : Prop where h : L.Perm (K ++ M)
instance sel_nil (L : List HP) : Sel [] L L := ⟨.refl _⟩
instance sel_cons (A : HP) (K L M M' : List HP) [h1 : Tk A L M] [h2 : Sel K M M'] : Sel (A :: K) L M' := ⟨h1.h.trans (h2.h.cons A)⟩
theorem Ct.use {f : FuncId} {args : Array Value} {K M : List HP} {R : Ending → List HP → Prop} (h : Ct P f args K R) [hs : Sel K L M] : Ct P f args L fun e L'' => ∃ L', R e L' ∧ L'' = L' ++ M :=
  Ct.heap (fun F w s => s.perm (hs.h.cons F)) (h.frame M)
end
end Go.Sp
