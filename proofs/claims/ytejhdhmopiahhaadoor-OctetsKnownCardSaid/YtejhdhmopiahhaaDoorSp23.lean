/- Nil checks, pointers and interfaces compared, type assertions that hold; texts and rows of bytes. -/
import Derived.Test.YtejhdhmopiahhaaDoorSp22
import Derived.Laws.IdiomStrings
import Derived.Laws.AppendOwn
import Derived.Laws.BytesArg
namespace Go.Sp
open Go.RowKit
/-- No panic comes out. -/
def noP (Q : Post) : Post
  | .panic _, _, _, _ => False
  | e, E, D, L => Q e E D L
instance calm_noP (Q : Post) : CalmQ (noP Q) := ⟨fun _ _ _ _ h => h⟩
def by8 (bs : List UInt8) : List Value := bs.map fun b => .int .u8 ((b.toNat : Nat) : Int)
abbrev str (bs : List UInt8) : Value := .string ⟨bs.toArray⟩
theorem length_by8 (bs : List UInt8) : (by8 bs).length = bs.length := by simp [by8]
theorem by8_get {bs : List UInt8} {i : Nat} {b : UInt8} (h : bs[i]? = some b) : (by8 bs)[i]? = some (.int .u8 ((b.toNat : Nat) : Int)) := by simp [by8, h]
section
variable {P : Program} {N : Nat} {rd : Option Nat} {E : Env} {D : List Deferred} {L : List HP} {Q : Post} {next : Env → List Deferred → List HP → Prop}
variable {d : Option Nat} {ty : TypeId} {pos : String} {after : Array Edge} {g : Option (Nat × Bool)}
theorem J_calm {c : Code} (h : J P N rd c E D L (noP Q)) : J P N rd c E D L Q := J_mono h fun e _ _ _ q => by cases e <;> first | exact q | exact q.elim
/-- An operation that only reads. -/
theorem JO_q {o : Oper} {v : Value} (hnd : ∀ c, o.op ≠ .defer c) (hq : JQ P N o E D L v) (hd : dok N o.dst = true) (h : next (put E o.dst v) D L) : JO P N rd o E D L next Q :=
  JO_value hnd hd fun F a w hr hs => ⟨v, w, L, hq F a hr w hs, hs, h⟩
theorem JQ_nilCheck {x : Operand} {p : Addr} (hx : ev E x = some (.pointer (some p))) : JQ P N ⟨d, .nilCheck x, ty, pos, after, g⟩ E D L (.pointer (some p)) := fun F a hr w hs => by simp [execOp, hr.eval hx]
theorem run_eqP {t e : TypeId} [TU P t (.pointer e)] (p : Option Addr) (w : World) : (Op.equal t (.pointer p) (.pointer none)).run P w = .ok p.isNone w := by
  unfold Op.equal
  rw [show Op.maxDepth = 9999 + 1 from rfl]
  unfold Op.equalIn
  cases p <;> simp [run_underlying' (TU.h (P := P) (t := t))]
theorem JQ_eqP {x : Operand} {t e u : TypeId} [TU P t (.pointer e)] {p : Option Addr} (hx : ev E x = some (.pointer p)) : JQ P N ⟨d, .binOp .eql t x (.const (.pointer none)) u, ty, pos, after, g⟩ E D L (.bool p.isNone) := fun F a hr w hs => by
  have h3 : a.eval (.const (.pointer none)) = .pointer none := rfl
  simp [execOp, hr.eval hx, h3, eqGuard, binOp, run_eqP]
theorem JQ_neP {x : Operand} {t e u : TypeId} [TU P t (.pointer e)] {p : Option Addr} (hx : ev E x = some (.pointer p)) : JQ P N ⟨d, .binOp .neq t x (.const (.pointer none)) u, ty, pos, after, g⟩ E D L (.bool p.isSome) := fun F a hr w hs => by
  have h3 : a.eval (.const (.pointer none)) = .pointer none := rfl
  cases p <;> simp [execOp, hr.eval hx, h3, eqGuard, binOp, run_eqP]
def isNilI : Value → Bool | .nilIface => true | _ => false
theorem run_eqI {t : TypeId} {ms : Array (String × TypeId)} [TU P t (.interface ms)] (v : Value) (hv : v = .nilIface ∨ ∃ u x, v = .iface u x) (w : World) : (Op.equal t v .nilIface).run P w = .ok (isNilI v) w := by
  unfold Op.equal
  rw [show Op.maxDepth = 9999 + 1 from rfl]
  unfold Op.equalIn
  rcases hv with rfl | ⟨u, x, rfl⟩ <;> simp [run_underlying' (TU.h (P := P) (t := t)), isNilI]
theorem JQ_eqI0 {x : Operand} {t u : TypeId} {ms : Array (String × TypeId)} [TU P t (.interface ms)] (hx : ev E x = some .nilIface) : JQ P N ⟨d, .binOp .eql t x (.const .nilIface) u, ty, pos, after, g⟩ E D L (.bool true) := fun F a hr w hs => by
  have h3 : a.eval (.const .nilIface) = .nilIface := rfl
  simp [execOp, hr.eval hx, h3, eqGuard, binOp, run_eqI (P := P) (t := t) .nilIface (.inl rfl) w, isNilI]
theorem JQ_eqI1 {x : Operand} {t u s : TypeId} {v : Value} {ms : Array (String × TypeId)} [TU P t (.interface ms)] (hx : ev E x = some (.iface s v)) : JQ P N ⟨d, .binOp .eql t x (.const .nilIface) u, ty, pos, after, g⟩ E D L (.bool false) := fun F a hr w hs => by
  have h3 : a.eval (.const .nilIface) = .nilIface := rfl
  simp [execOp, hr.eval hx, h3, eqGuard, binOp, run_eqI (P := P) (t := t) (.iface s v) (.inr ⟨s, v, rfl⟩) w, isNilI]
theorem JQ_assertT {x : Operand} {xt t : TypeId} {v : Value} {dd : TypeDesc} [TU P t dd] (hni : ∀ ms, dd ≠ .interface ms) (hx : ev E x = some (.iface t v)) : JQ P N ⟨d, .typeAssert x xt t true, ty, pos, after, g⟩ E D L (.tuple [v, .bool true].toArray) := fun F a hr w hs => by
  have h1 := run_underlying' (TU.h (P := P) (t := t) (d := dd)) w
  cases dd <;> simp_all [execOp, Instr.typeAssert, hr.eval hx]
/-! ### Texts and rows of bytes -/
theorem JO_bytes {src dst e : TypeId} [TU P src .string] [TU P dst (.slice e)] [TU P e (.int .u8)] {x : Operand} {bs : List UInt8} (hx : ev E x = some (str bs)) (hn : bs.length ≤ maxLen) (hd : dok N d = true)
    (h : ∀ b cap, bs.length ≤ cap → next (put E d (.slice (some ⟨b, 0, none⟩) bs.length cap)) D (Vw 1 (.slice (some ⟨b, 0, none⟩) bs.length cap) bs.length (by8 bs) :: L)) : JO P N rd ⟨d, .convert src dst x, ty, pos, after, g⟩ E D L next Q :=
  JO_value (fun c => by simp) hd fun F a w hr hs => by
    have h1 := run_bytes_of_string (P := P) w src dst e ⟨bs.toArray⟩ TU.h TU.h TU.h
    have e1 : (⟨bs.toArray⟩ : ByteArray).size = bs.length := by simp [ByteArray.size]
    rw [e1] at h1
    have e2 : bytesRow ⟨bs.toArray⟩ (grownCap w bs.length 0 e) = (by8 bs ++ List.replicate (grownCap w bs.length 0 e - bs.length) (Value.int .u8 0)).toArray := by
      apply Array.ext'
      simp [bytesRow, by8, e1]
    rw [e2] at h1
    have hC : ∀ i u, (by8 bs)[i]? = some u → (by8 bs ++ List.replicate (grownCap w bs.length 0 e - bs.length) (Value.int .u8 0))[i]? = some u := fun i u hu => by
      rw [List.getElem?_append_left (List.getElem?_eq_some_iff.1 hu).1]
      exact hu
    generalize (by8 bs ++ List.replicate (grownCap w bs.length 0 e - bs.length) (Value.int .u8 0)) = C at h1 hC
    generalize hfz : (C.toArray.size, C.toArray.size + 1) = fz at h1
    have e3 : (execOp a.eval ⟨d, .convert src dst x, ty, pos, after, g⟩).run P w = .ok (.value (.slice (some ⟨w.heap.size, 0, none⟩) bs.length (grownCap w bs.length 0 e))) (w.drew.alloc (.cells C.toArray e fz)) := by simp [execOp, hr.eval hx, h1]
    refine ⟨_, _, Vw 1 (.slice (some ⟨w.heap.size, 0, none⟩) bs.length (grownCap w bs.length 0 e)) bs.length (by8 bs) :: L, e3, ?_, h w.heap.size (grownCap w bs.length 0 e) (grownCap_ge w bs.length 0 e)⟩
    have h2 : Sat (w.drew.alloc (.cells C.toArray e fz)) (ro w.heap.size (.cells C.toArray e fz) :: F :: L) := ((hs.world (w' := w.drew) rfl).new (.cells C.toArray e fz)).freeze
    refine Sat.swap (Sat.conv h2 fun k hk => ?_)
    refine ⟨by rw [length_by8, Nat.mul_one], hn, some ⟨w.heap.size, 0, none⟩, _, rfl, .inr ⟨w.heap.size, 0, _, e, _, rfl, hk, fun i u hu => ?_⟩⟩
    rw [Nat.zero_add]
    exact hC i u hu
theorem JQ_str {src dst e : TypeId} [TU P src (.slice e)] [TU P e (.int .u8)] [TU P dst .string] {x : Operand} {bs : List UInt8} {p : Option Addr} {n cap : Nat} (hx : ev E x = some (.slice p n cap)) (hn : bs.length = n) [hv : HV L (.slice p n cap) 1 n (by8 bs)] :
    JQ P N ⟨d, .convert src dst x, ty, pos, after, g⟩ E D L (str bs) := fun F a hr w hs => by
  subst hn
  obtain ⟨M, hm⟩ := hv.h F w hs
  have hc : bs.length = 0 ∨ ∃ b o, p = some ⟨b, o, none⟩ := Sat.out hm fun k ⟨_, _, p', c', e', h⟩ => by
    cases e'
    exact h.imp id fun ⟨b, o, _, _, _, h1, _⟩ => ⟨b, o, h1⟩
  have key : ∀ a' : Addr, p = some a' → (∀ j (hj : j < bs.length), w.cell? (a'.add j) = some (.int .u8 ((bs[j].toNat : Nat) : Int))) → (convert src dst (.slice p bs.length cap)).run P w = .ok (.string ⟨bs.toArray⟩) w := by
    rintro a' rfl h
    exact run_convert_bytes_back w src dst e a' cap bs TU.h TU.h TU.h h
  have hrun : (convert src dst (.slice p bs.length cap)).run P w = .ok (.string ⟨bs.toArray⟩) w := by
    rcases hc with h0 | ⟨b, o, rfl⟩
    · have hb : bs = [] := List.eq_nil_of_length_eq_zero h0
      subst hb
      cases p with
      | none =>
        have := run_convert_bytes_nil (P := P) w src e TU.h TU.h 0 cap dst TU.h
        exact this
      | some a' => exact key a' rfl fun j hj => absurd hj (Nat.not_lt_zero _)
    · refine key _ rfl fun j hj => ?_
      have := lds_vw1 (L := L) (n := bs.length) (cap := cap) (b := b) (o := o) (j := j) hj (by8_get (List.getElem?_eq_getElem hj)) F w hs
      simp only [addr_add]
      exact this
  simp [execOp, hr.eval hx, hrun]
/-- v[:j:j]. -/
theorem JQ_sub3 {t e : TypeId} [TU P t (.slice e)] {z : Value} {n k : Nat} [TI P e z n k] {x hi mx : Operand} {p : Option Addr} {len cap j : Nat} {ik ik2 : IntKind} (hx : ev E x = some (.slice p len cap)) (hh : ev E hi = some (.int ik (j : Int))) (hm : ev E mx = some (.int ik2 (j : Int))) (hj : j ≤ cap) :
    JQ P N ⟨d, .slice t x none (some hi) (some mx), ty, pos, after, g⟩ E D L (.slice p j j) := fun F a hr w hs => by
  obtain ⟨i, h1, h2, h3, h4⟩ := TI.h (P := P) (t := e) (z := z) (n := n) (b := k)
  have h5 : (Instr.sliceAt t (.slice p len cap) none (some (.int ik (j : Int))) (some (.int ik2 (j : Int)))).run P w = (Instr.slice t (.slice p len cap) none (some (.int ik (j : Int))) (some (.int ik2 (j : Int)))).run P w := by simp [Instr.sliceAt, run_underlying' (TU.h (P := P) (t := t))]
  have h6 : (if j = 0 then p else p.map (·.add (0 * i.size))) = p := by
    split
    · rfl
    · cases p with
      | none => rfl
      | some a => simp [Addr.add]
  simp [execOp, hr.eval hx, hr.eval hh, hr.eval hm, h5, Instr.slice, Instr.sliceBounds, run_underlying' (TU.h (P := P) (t := t)), run_sliceBound _ ik2 (j : Int) cap _ (by omega) (by omega), run_sliceBound _ ik (j : Int) j _ (by omega) (by omega), run_sizeOf' h1]
  simpa using h6
/-- v[j:]. -/
theorem JQ_tail {t e : TypeId} [TU P t (.slice e)] {z : Value} {n k : Nat} [TI P e z n k] {x lo : Operand} {p : Option Addr} {len cap j : Nat} {ik : IntKind} (hx : ev E x = some (.slice p len cap)) (hh : ev E lo = some (.int ik (j : Int))) (hj : j ≤ len) (hc : len ≤ cap) :
    JQ P N ⟨d, .slice t x (some lo) none none, ty, pos, after, g⟩ E D L (.slice (if cap = j then p else p.map (·.add (j * n))) (len - j) (cap - j)) := fun F a hr w hs => by
  obtain ⟨i, h1, h2, h3, h4⟩ := TI.h (P := P) (t := e) (z := z) (n := n) (b := k)
  have h5 : (Instr.sliceAt t (.slice p len cap) (some (.int ik (j : Int))) none none).run P w = (Instr.slice t (.slice p len cap) (some (.int ik (j : Int))) none none).run P w := by simp [Instr.sliceAt, run_underlying' (TU.h (P := P) (t := t))]
  simp [execOp, hr.eval hx, hr.eval hh, h5, Instr.slice, Instr.sliceBounds, run_underlying' (TU.h (P := P) (t := t)), run_sliceBound _ ik (j : Int) len _ (by omega) (by omega), run_sizeOf' h1, h3]
theorem vw_cut {sz n m cap c : Nat} {p : Option Addr} {cs : List Value} (hm : m ≤ n) (k : Part) (h : Vw sz (.slice p n cap) n cs k) : Vw sz (.slice p m c) m (cs.take (m * sz)) k := by
  obtain ⟨h1, h2, p', c', e, h3⟩ := h
  cases e
  refine ⟨by rw [List.length_take, h1]; exact Nat.min_eq_left (Nat.mul_le_mul_right _ hm), by omega, p, c, rfl, ?_⟩
  rcases h3 with rfl | ⟨b, o, all, e, fz, h4, h5, h6⟩
  · exact .inl (by omega)
  · refine .inr ⟨b, o, all, e, fz, h4, h5, fun i u hu => h6 i u ?_⟩
    rw [List.getElem?_take] at hu
    split at hu
    · exact hu
    · cases hu
theorem vw_drop {sz n j cap c : Nat} {p : Option Addr} {cs : List Value} (hj : j ≤ n) (hc : n ≤ cap) (k : Part) (h : Vw sz (.slice p n cap) n cs k) : Vw sz (.slice (if cap = j then p else p.map (·.add (j * sz))) (n - j) c) (n - j) (cs.drop (j * sz)) k := by
  obtain ⟨h1, h2, p', c', e, h3⟩ := h
  cases e
  refine ⟨by rw [List.length_drop, h1, Nat.sub_mul], by omega, _, c, rfl, ?_⟩
  by_cases hcj : cap = j
  · exact .inl (by omega)
  rcases h3 with rfl | ⟨b, o, all, e, fz, h4, h5, h6⟩
  · exact .inl (by omega)
  · subst h4
    rw [if_neg hcj]
    refine .inr ⟨b, o + j * sz, all, e, fz, by simp [addr_add], h5, fun i u hu => ?_⟩
    rw [List.getElem?_drop] at hu
    have := h6 _ _ hu
    rw [← this]
    congr 1
    omega
theorem by8_take (bs : List UInt8) (m : Nat) : (by8 bs).take (m * 1) = by8 (bs.take m) := by rw [Nat.mul_one]; simp [by8, List.map_take]
theorem by8_drop (bs : List UInt8) (m : Nat) : (by8 bs).drop (m * 1) = by8 (bs.drop m) := by rw [Nat.mul_one]; simp [by8, List.map_drop]
end
end Go.Sp
