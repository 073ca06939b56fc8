/- Results in cells of one place; a function that defers. -/
import Derived.Test.YtejhdhmopiahhaaDoorSp24
namespace Go.Sp
open Go.RowKit
section
variable {P : Program} {N : Nat} {E : Env} {D : List Deferred} {L : List HP}
theorem res_cell1 {fn : Func} {a t : Nat} [T1 P t] {b : Nat} {v : Value} {cs : List Value} {bt : TypeId} {fz : Nat × Nat} (h : fn.results = #[.cell a t]) (hv : Env.get E a = some (.pointer (some ⟨b, 0, none⟩))) [hb : HB L b (.cells cs.toArray bt fz)] (hg : cs[0]? = some v) : Res P N fn E L v := fun F ac w D hr hs => by
  have h1 : (ac.tmps.getD a undef) = .pointer (some ⟨b, 0, none⟩) := hr.eval (x := .tmp a) hv
  have h2 : w.cell? ⟨b, 0, none⟩ = some v := lds_block (h := hb) hg F w hs
  have h3 : (loadVar t ⟨b, 0, none⟩).run P w = .ok v w := by simp [loadVar, run_isAgg1 (P := P) (t := t), h2]
  have h1 := Array.getD_eq_getD_getElem? .. ▸ h1
  simp [results, h, h1, asAddr, h3]
/-- A slot and a cell. -/
theorem res_tc {fn : Func} {a t u : Nat} [T1 P t] {b : Nat} {v x : Value} {cs : List Value} {bt : TypeId} {fz : Nat × Nat} (h : fn.results = #[.tmp u, .cell a t]) (hx : Env.get E u = some x) (hv : Env.get E a = some (.pointer (some ⟨b, 0, none⟩))) [hb : HB L b (.cells cs.toArray bt fz)] (hg : cs[0]? = some v) :
    Res P N fn E L (.tuple #[x, v]) := fun F ac w D hr hs => by
  have h1 : (ac.tmps.getD a undef) = .pointer (some ⟨b, 0, none⟩) := hr.eval (x := .tmp a) hv
  have h4 : (ac.tmps.getD u undef) = x := hr.eval (x := .tmp u) hx
  have h2 : w.cell? ⟨b, 0, none⟩ = some v := lds_block (h := hb) hg F w hs
  have h3 : (loadVar t ⟨b, 0, none⟩).run P w = .ok v w := by simp [loadVar, run_isAgg1 (P := P) (t := t), h2]
  have h1 := Array.getD_eq_getD_getElem? .. ▸ h1
  simp [results, h, h1, ← h4, asAddr, h3]
/-- A slot and a struct in cells. -/
theorem res_tcW {fn : Func} {a t u n : Nat} [TA P t n] {b : Nat} {x : Value} {cs : List Value} {bt : TypeId} {fz : Nat × Nat} (h : fn.results = #[.tmp u, .cell a t]) (hx : Env.get E u = some x) (hv : Env.get E a = some (.pointer (some ⟨b, 0, none⟩))) [hb : HB L b (.cells cs.toArray bt fz)] (hn : cs.length = n) :
    Res P N fn E L (.tuple #[x, .agg cs.toArray]) := fun F ac w D hr hs => by
  have h1 : (ac.tmps.getD a undef) = .pointer (some ⟨b, 0, none⟩) := hr.eval (x := .tmp a) hv
  have h4 : (ac.tmps.getD u undef) = x := hr.eval (x := .tmp u) hx
  have h2 := run_loadVarW (P := P) (L := L) (t := t) (n := n) (b := b) (cs := cs) (bt := bt) (fz := fz) hn hs
  have h1 := Array.getD_eq_getD_getElem? .. ▸ h1
  simp [results, h, h1, ← h4, asAddr, h2]
end
/-- A function that defers, from its body; what it leaves may be turned. -/
theorem fn_retD {P : Program} {N : Nat} {L : List HP} {f : FuncId} {fn : Func} {c : Code} {vs : List Value} {R : Ending → List HP → Prop} (hf : P.funcs[f]? = some fn) (hb : fn.body = some c) (hn : fn.ntmps = N) (hN : vs.length ≤ N)
    (h : J P N none c (argEnv 0 vs) [] L (bodyQD P N fn fun e L => ∃ L', Ent L L' ∧ R e L')) : Ct P f vs.toArray L R := fun F w hs =>
  (fn_bodyD hf hb hn hN h F w hs).mono fun _ w' ⟨hne, _, ⟨L2, he, hr⟩, s⟩ => ⟨hne, L2, hr, he F w' s⟩
/-! ### Texts -/
section
variable {P : Program} {N : Nat} {E : Env} {D : List Deferred} {L : List HP}
variable {d : Option Nat} {ty : TypeId} {pos : String} {after : Array Edge} {g : Option (Nat × Bool)}
theorem extract_str (bs : List UInt8) (l h : Nat) : (⟨bs.toArray⟩ : ByteArray).extract l h = ⟨((bs.take h).drop l).toArray⟩ := by
  apply ByteArray.ext
  apply Array.ext'
  rw [ByteArray.data_extract]
  simp [List.drop_take]
theorem size_str (bs : List UInt8) : (⟨bs.toArray⟩ : ByteArray).size = bs.length := by simp [ByteArray.size]
theorem JQ_lenS {x : Operand} {t : TypeId} [TU P t .string] {s : ByteArray} (hx : ev E x = some (.string s)) : JQ P N ⟨d, .call ⟨.builtin .len, #[x], #[t]⟩, ty, pos, after, g⟩ E D L (.int .i64 (s.size : Int)) := fun F a hr w hs => by
  simp [execOp, resolve, invoke, builtin, Builtin.len_, hr.eval hx, run_underlying' TU.h, goInt]
/-- s[i]. -/
theorem JQ_idxS {t : TypeId} [TU P t .string] {x y : Operand} {bs : List UInt8} {i : Nat} {ik : IntKind} {c : UInt8} (hx : ev E x = some (str bs)) (hy : ev E y = some (.int ik (i : Int))) (hc : bs[i]? = some c) : JQ P N ⟨d, .index t x y, ty, pos, after, g⟩ E D L (.int .u8 ((c.toNat : Nat) : Int)) := fun F a hr w hs => by
  have h1 : (⟨bs.toArray⟩ : ByteArray)[i]? = some c := by
    have hlt : i < bs.length := (List.getElem?_eq_some_iff.1 hc).1
    have hlt' : i < (⟨bs.toArray⟩ : ByteArray).size := by rw [size_str]; exact hlt
    rw [getElem?_pos (⟨bs.toArray⟩ : ByteArray) i hlt']
    have := (List.getElem?_eq_some_iff.1 hc).2
    rw [← this]
    rfl
  simp [execOp, hr.eval hx, hr.eval hy, Instr.index, asIntOf, run_underlying' (TU.h (P := P) (t := t)), h1]
/-- s[lo:hi]. -/
theorem JQ_sliceS {t : TypeId} [TU P t .string] {x lo hi : Operand} {bs : List UInt8} {l h : Nat} {ik ik2 : IntKind} (hx : ev E x = some (str bs)) (hl : ev E lo = some (.int ik (l : Int))) (hh : ev E hi = some (.int ik2 (h : Int))) (h1 : l ≤ h) (h2 : h ≤ bs.length) :
    JQ P N ⟨d, .slice t x (some lo) (some hi) none, ty, pos, after, g⟩ E D L (str ((bs.take h).drop l)) := fun F a hr w hs => by
  have h5 : (Instr.sliceAt t (str bs) (some (.int ik (l : Int))) (some (.int ik2 (h : Int))) none).run P w = (Instr.slice t (str bs) (some (.int ik (l : Int))) (some (.int ik2 (h : Int))) none).run P w := by simp [Instr.sliceAt, run_underlying' (TU.h (P := P) (t := t))]
  simp [execOp, hr.eval hx, hr.eval hl, hr.eval hh, h5, Instr.slice, Instr.sliceBounds, run_underlying' (TU.h (P := P) (t := t)), size_str, run_sliceBound _ ik2 (h : Int) bs.length _ (by omega) (by omega), run_sliceBound _ ik (l : Int) h _ (by omega) (by omega), extract_str]
end
end Go.Sp
