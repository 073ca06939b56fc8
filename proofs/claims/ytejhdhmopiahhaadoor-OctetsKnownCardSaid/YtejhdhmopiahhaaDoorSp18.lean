/- Remainders, conversions of Nats, places in arrays; whole values stored into rows; a row's front part. -/
import Derived.Test.YtejhdhmopiahhaaDoorSp16
namespace Go.Sp
open Go.RowKit
theorem flat_take {α : Type} {k : Nat} {f : α → List Value} (hf : ∀ x, (f x).length = k) : ∀ (xs : List α) (m : Nat), (xs.flatMap f).take (m * k) = (xs.take m).flatMap f
  | [], m => by simp
  | x :: xs, 0 => by simp
  | x :: xs, m + 1 => by
    rw [List.flatMap_cons, List.take_succ_cons, List.flatMap_cons, show (m + 1) * k = (f x).length + m * k by rw [hf, Nat.add_mul, Nat.one_mul, Nat.add_comm], List.take_length_add_append, flat_take hf xs m]
theorem vw_take {sz n m cap : Nat} {p : Option Addr} {cs : List Value} (hm : m ≤ n) (k : Part) (h : Vw sz (.slice p n cap) n cs k) : Vw sz (.slice p m cap) m (cs.take (m * sz)) k := by
  obtain ⟨h1, h2, p', cap', h3, h4⟩ := h
  cases h3
  have hle : m * sz ≤ n * sz := Nat.mul_le_mul_right _ hm
  refine ⟨by rw [List.length_take]; omega, by omega, p, cap, rfl, ?_⟩
  by_cases h0 : m = 0
  · exact .inl h0
  · right
    obtain ⟨b, o, all, e, fz, h5, h6, h7⟩ := h4.resolve_left (by omega)
    refine ⟨b, o, all, e, fz, h5, h6, fun i u hu => h7 i u ?_⟩
    rw [List.getElem?_take] at hu
    split at hu
    · exact hu
    · cases hu
theorem lds_eq {L : List HP} {b o o' : Nat} {v : Value} (h : Lds L ⟨b, o, none⟩ v) (e : o = o') : Lds L ⟨b, o', none⟩ v := e ▸ h
section
variable {P : Program} {N : Nat} {rd : Option Nat} {E : Env} {D : List Deferred} {L : List HP} {Q : Post} {next : Env → List Deferred → List HP → Prop}
variable {d : Option Nat} {ty : TypeId} {pos : String} {after : Array Edge} {g : Option (Nat × Bool)}
theorem JO_remN {x y : Operand} {t u : TypeId} {k : IntKind} {a b : Nat} (hx : ev E x = some (.int k (a : Int))) (hy : ev E y = some (.int k (b : Int))) (hb : 0 < b) (hd : dok N d = true) (h : next (put E d (.int k ((a % b : Nat) : Int))) D L) :
    JO P N rd ⟨d, .binOp .rem t x y u, ty, pos, after, g⟩ E D L next Q :=
  JO_pure _ (fun c => by simp) hd (fun w' w hr => by
    have h1 : ¬ b = 0 := by omega
    have h2 : ((a : Int).tmod (b : Int)) = ((a % b : Nat) : Int) := by rw [Int.ofNat_tmod]
    simp [execOp, hr.eval hx, hr.eval hy, eqGuard, binOp, Op.intDiv, h1, h2]) h
theorem JO_quoN {x y : Operand} {t u : TypeId} {k : IntKind} {a b : Nat} (hx : ev E x = some (.int k (a : Int))) (hy : ev E y = some (.int k (b : Int))) (hb : 0 < b) (hw : k.wrap ((a / b : Nat) : Int) = ((a / b : Nat) : Int)) (hd : dok N d = true) (h : next (put E d (.int k ((a / b : Nat) : Int))) D L) :
    JO P N rd ⟨d, .binOp .quo t x y u, ty, pos, after, g⟩ E D L next Q :=
  JO_pure _ (fun c => by simp) hd (fun w' w hr => by
    have h1 : ¬ b = 0 := by omega
    have h2 : ((a : Int).tdiv (b : Int)) = ((a / b : Nat) : Int) := by rw [Int.ofNat_tdiv]
    simp [execOp, hr.eval hx, hr.eval hy, eqGuard, binOp, Op.intDiv, h1, h2]; simpa using hw) h
theorem JO_convN {src dst : TypeId} {k : IntKind} {sd : TypeDesc} [TU P src sd] [TU P dst (.int .i64)] {x : Operand} {n : Nat} (hx : ev E x = some (.int k (n : Int))) (hn : n ≤ 9223372036854775807) (hd : dok N d = true) (h : next (put E d (.int .i64 (n : Int))) D L) :
    JO P N rd ⟨d, .convert src dst x, ty, pos, after, g⟩ E D L next Q := JO_conv hx hd (by
  have : IntKind.i64.wrap (n : Int) = (n : Int) := by simp [IntKind.wrap, IntKind.min, IntKind.max, IntKind.signed, IntKind.bits]; omega
  rw [this]; exact h)
theorem JO_indexPA {t e len : Nat} [TU P t (.array len e)] {z : Value} {n k : Nat} [TI P e z n k] {x y : Operand} {b o j : Nat} {ik : IntKind} (hx : ev E x = some (.pointer (some ⟨b, o, none⟩))) (hy : ev E y = some (.int ik (j : Int))) (hj : j < len) (hd : dok N d = true)
    (h : next (put E d (.pointer (some ⟨b, o + j * n, none⟩))) D L) : JO P N rd ⟨d, .indexAddr t x y, ty, pos, after, g⟩ E D L next Q :=
  JO_pure _ (fun c => by simp) hd (fun a w hr => by
    obtain ⟨i, h1, h2, h3, h4⟩ := TI.h (P := P) (t := e) (z := z) (n := n) (b := k)
    have h5 : ¬ len ≤ j := by omega
    simp [execOp, Instr.indexAt, hr.eval hx, hr.eval hy, asIntOf, run_underlying' (TU.h (P := P) (t := t)), Instr.sureAddr, run_sizeOf' h1, h3, addr_add, h5]) h
theorem storeCells_off {b o : Nat} : ∀ (vs : List Value) (i : Nat), storeCells ⟨b, o, none⟩ vs i = storeCells ⟨b, 0, none⟩ vs (o + i)
  | [], i => rfl
  | v :: vs, i => by simp only [storeCells, addr_add, storeCells_off vs (i + 1), Nat.zero_add, Nat.add_assoc]
/-- A whole value stored into the midst of a block. -/
theorem JO_storeM {t : TypeId} {z : Value} {n k : Nat} [TI P t z n k] {x y : Operand} {b off : Nat} {cs pre old post vs : List Value} {bt : TypeId} {L' : Obj → List HP} (hx : ev E x = some (.pointer (some ⟨b, off, none⟩))) (hy : ev E y = some (.agg vs.toArray))
    [hb : WB L b (.cells cs.toArray bt (0, 0)) L'] (hcs : cs = pre ++ old ++ post) (ho : off = pre.length) (hn : vs.length = n) (hn' : old.length = n) (hv : ∀ v ∈ vs, v.oneCell' = true) (hd : dok N d = true)
    (h : next (put E d undef) D (L' (.cells (pre ++ vs ++ post).toArray bt (0, 0)))) : JO P N rd ⟨d, .store t x y, ty, pos, after, g⟩ E D L next Q :=
  JO_unit (fun c => by simp) hd fun F a w hr hs' => by
    obtain ⟨i, h1, h2, h3, h4⟩ := TI.h (P := P) (t := t) (z := z) (n := n) (b := k)
    obtain ⟨hb1, hb2⟩ := hb.h F w hs'
    subst hcs; subst ho
    have hst := run_storeCells_all (P := P) (b := b) (t := bt) vs pre post w hv old (by omega) hb1
    refine ⟨_, _, ?_, hb2 _, h⟩
    have e := storeCells_off (b := b) (o := pre.length) vs 0
    rw [Nat.add_zero] at e
    simp [execOp, Instr.storeAt, Instr.sureAddr, hr.eval hx, hr.eval hy, storeVar, Value.cells, run_sizeOf' h1, h3, hn, e, hst]
theorem J_own {c : Code} {e sz : Nat} {v : Value} {n : Nat} {cs : List Value} (hn : 0 < n) (h : ∀ b sp cap, v = .slice (some ⟨b, 0, none⟩) n cap → n ≤ cap → cap ≤ maxLen → cs.length + sp.length = cap * sz → cs.length = n * sz → J P N rd c E D (pt b (.cells (cs ++ sp).toArray e (0, 0)) :: L) Q) :
    J P N rd c E D (OwnS e sz v n cs :: L) Q := by
  intro F a w hr hs
  obtain ⟨h0, h1 | ⟨b, sp, cap, h1, h2, h3, h4, h5⟩⟩ := hs.swap.own_cases
  · omega
  · exact h b sp cap h1 h2 h3 h4 h0 F a w hr h5.swap
/-- An owned slice is a slice. -/
theorem J_ownv {c : Code} {e sz : Nat} {v : Value} {n : Nat} {cs : List Value} (h : ∀ p cap, v = .slice p n cap → J P N rd c E D (OwnS e sz v n cs :: L) Q) : J P N rd c E D (OwnS e sz v n cs :: L) Q := by
  intro F a w hr hs
  obtain ⟨_, ⟨h1, h2, _⟩ | ⟨b, sp, cap, h1, _⟩⟩ := hs.swap.own_cases
  · exact h none 0 (by rw [h1, h2]) F a w hr hs
  · exact h _ cap h1 F a w hr hs
end
end Go.Sp
