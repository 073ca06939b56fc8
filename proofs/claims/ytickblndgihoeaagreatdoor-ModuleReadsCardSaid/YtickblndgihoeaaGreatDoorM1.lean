/- Results in cells of one place; a function that defers. -/
import Derived.Test.YtickblndgihoeaaGreatDoorM0
import Derived.Lib.AppendStr
set_option linter.unusedSimpArgs false
namespace Go.Sp
open Go.RowKit
section
variable {P : Program} {N : Nat} {E : Env} {D : List Deferred} {L : List HP}
theorem res_cell1 {fn : Func} {a t : Nat} [T1 P t] {b : Nat} {v : Value} {cs : List Value} {bt : TypeId} {fz : Nat × Nat} (h : fn.results = #[.cell a t]) (hv : Env.get E a = some (.pointer (some ⟨b,0,none⟩))) [hb : HB L b (.cells cs.toArray bt fz)] (hg : cs[0]? = some v) : Res P N fn E L v := fun F ac w D hr hs => by
  have h1 : (ac.tmps.getD a undef) = .pointer (some ⟨b,0,none⟩) := hr.eval (x := .tmp a) hv
  have h2 : w.cell? ⟨b,0,none⟩ = some v := wB (h := hb) hg F w hs
  have h3 : (loadVar t ⟨b,0,none⟩).run P w = .ok v w := by simp [loadVar,run_isAgg1 (P := P) (t := t),h2]
  have h1 := Array.getD_eq_getD_getElem? .. ▸ h1
  simp [results,h,h1,asAddr,h3]
theorem res_tc {fn : Func} {a t u : Nat} [T1 P t] {b : Nat} {v x : Value} {cs : List Value} {bt : TypeId} {fz : Nat × Nat} (h : fn.results = #[.tmp u,.cell a t]) (hx : Env.get E u = some x) (hv : Env.get E a = some (.pointer (some ⟨b,0,none⟩))) [hb : HB L b (.cells cs.toArray bt fz)] (hg : cs[0]? = some v) :
    Res P N fn E L (.tuple #[x,v]) := fun F ac w D hr hs => by
  have h1 : (ac.tmps.getD a undef) = .pointer (some ⟨b,0,none⟩) := hr.eval (x := .tmp a) hv
  have h4 : (ac.tmps.getD u undef) = x := hr.eval (x := .tmp u) hx
  have h2 : w.cell? ⟨b,0,none⟩ = some v := wB (h := hb) hg F w hs
  have h3 : (loadVar t ⟨b,0,none⟩).run P w = .ok v w := by simp [loadVar,run_isAgg1 (P := P) (t := t),h2]
  have h1 := Array.getD_eq_getD_getElem? .. ▸ h1
  simp [results,h,h1,← h4,asAddr,h3]
theorem res_tcW {fn : Func} {a t u n : Nat} [TA P t n] {b : Nat} {x : Value} {cs : List Value} {bt : TypeId} {fz : Nat × Nat} (h : fn.results = #[.tmp u,.cell a t]) (hx : Env.get E u = some x) (hv : Env.get E a = some (.pointer (some ⟨b,0,none⟩))) [hb : HB L b (.cells cs.toArray bt fz)] (hn : cs.length = n) :
    Res P N fn E L (.tuple #[x,.agg cs.toArray]) := fun F ac w D hr hs => by
  have h1 : (ac.tmps.getD a undef) = .pointer (some ⟨b,0,none⟩) := hr.eval (x := .tmp a) hv
  have h4 : (ac.tmps.getD u undef) = x := hr.eval (x := .tmp u) hx
  have h2 := run_loadVarW (P := P) (L := L) (t := t) (n := n) (b := b) (cs := cs) (bt := bt) (fz := fz) hn hs
  have h1 := Array.getD_eq_getD_getElem? .. ▸ h1
  simp [results,h,h1,← h4,asAddr,h2]
end
theorem fn_retD {P : Program} {N : Nat} {L : List HP} {f : FuncId} {fn : Func} {c : Code} {vs : List Value} {R : Ending → List HP → Prop} (hf : P.funcs[f]? = some fn) (hb : fn.body = some c) (hn : fn.ntmps = N) (hN : vs.length ≤ N)
    (h : J P N none c (argEnv 0 vs) [] L (bodyQD P N fn fun e L => ∃ L',Ent L L' ∧ R e L')) : Ct P f vs.toArray L R := fun F w hs =>
  (fn_bodyD hf hb hn hN h F w hs).mono fun _ w' ⟨hne,_,⟨L2,he,hr⟩,s⟩ => ⟨hne,L2,hr,he F w' s⟩
section
variable {P : Program} {N : Nat} {E : Env} {D : List Deferred} {L : List HP}
variable {d : Option Nat} {ty : TypeId} {pos : String} {after : Array Edge} {g : Option (Nat × Bool)}
theorem extract_str (bs : List UInt8) (l h : Nat) : (⟨bs.toArray⟩ : ByteArray).extract l h = ⟨((bs.take h).drop l).toArray⟩ := by
  apply ByteArray.ext
  apply Array.ext'
  rw [ByteArray.data_extract]
  simp [List.drop_take]
theorem size_str (bs : List UInt8) : (⟨bs.toArray⟩ : ByteArray).size = bs.length := by simp [ByteArray.size]
theorem JQ_lenS {x : Operand} {t : TypeId} [TU P t .string] {s : ByteArray} (hx : ev E x = some (.string s)) : JQ P N ⟨d,.call ⟨.builtin .len,#[x],#[t]⟩,ty,pos,after,g⟩ E D L (.int .i64 (s.size : Int)) := fun F a hr w hs => by
  simp [execOp,resolve,invoke,builtin,Builtin.len_,hr.eval hx,yM TU.h,goInt]
theorem JQ_idxS {t : TypeId} [TU P t .string] {x y : Operand} {bs : List UInt8} {i : Nat} {ik : IntKind} {c : UInt8} (hx : ev E x = some (str bs)) (hy : ev E y = some (.int ik (i : Int))) (hc : bs[i]? = some c) : JQ P N ⟨d,.index t x y,ty,pos,after,g⟩ E D L (.int .u8 ((c.toNat : Nat) : Int)) := fun F a hr w hs => by
  have h1 : (⟨bs.toArray⟩ : ByteArray)[i]? = some c := by
    have hlt : i < bs.length := (List.getElem?_eq_some_iff.1 hc).1
    have hlt' : i < (⟨bs.toArray⟩ : ByteArray).size := by rw [size_str];exact hlt
    rw [getElem?_pos (⟨bs.toArray⟩ : ByteArray) i hlt']
    have := (List.getElem?_eq_some_iff.1 hc).2
    rw [← this]
    rfl
  simp [execOp,hr.eval hx,hr.eval hy,Instr.index,asIntOf,yM (TU.h (P := P) (t := t)),h1]
theorem JQ_sliceS {t : TypeId} [TU P t .string] {x lo hi : Operand} {bs : List UInt8} {l h : Nat} {ik ik2 : IntKind} (hx : ev E x = some (str bs)) (hl : ev E lo = some (.int ik (l : Int))) (hh : ev E hi = some (.int ik2 (h : Int))) (h1 : l ≤ h) (h2 : h ≤ bs.length) :
    JQ P N ⟨d,.slice t x (some lo) (some hi) none,ty,pos,after,g⟩ E D L (str ((bs.take h).drop l)) := fun F a hr w hs => by
  have h5 : (Instr.sliceAt t (str bs) (some (.int ik (l : Int))) (some (.int ik2 (h : Int))) none).run P w = (Instr.slice t (str bs) (some (.int ik (l : Int))) (some (.int ik2 (h : Int))) none).run P w := by simp [Instr.sliceAt,yM (TU.h (P := P) (t := t))]
  simp [execOp,hr.eval hx,hr.eval hl,hr.eval hh,h5,Instr.slice,Instr.sliceBounds,yM (TU.h (P := P) (t := t)),size_str,run_sliceBound _ ik2 (h : Int) bs.length _ (by omega) (by omega),run_sliceBound _ ik (l : Int) h _ (by omega) (by omega),extract_str]
end
end Go.Sp

/- Layer 1: octets: a byte,n of them,a part,the end. -/
namespace Go.Proofs.YtickblndgihoeaaGreatDoor
open Go Go.Sp
section
variable {E : Env} {L M : List HP} {N : Nat} {fn : Func} {R : Ending → List HP → Prop} {v : Value}
theorem leaves_r (e : Nat) (hv : Res Tryz.prog N fn E L v) (hR : R (.returned v) L) : xB Tryz.prog N fn R E [⟨.fn (.func 47) #[],#[ptr e]⟩] .returning L := by
  refine ⟨by simp,47,rfl,inferInstance,((told_r e).frame L).mono ?_⟩
  rintro en u L' ⟨L1,⟨rfl,rfl,rfl⟩,rfl⟩
  exact ⟨v,hv,hR⟩
theorem leaves_p (e q : Nat) [hs : Sel [pt e (.cells #[.nilIface] 43 (0,0))] L M] (hv : Res Tryz.prog N fn E (pt e (.cells #[xH q] 43 (0,0)) :: M) v) (hR : R (.returned v) (pt e (.cells #[xH q] 43 (0,0)) :: M)) :
    xB Tryz.prog N fn R E [⟨.fn (.func 47) #[],#[ptr e]⟩] (.panicking [{ v := xH q,recovered := false }]) L := by
  refine ⟨by simp,47,rfl,inferInstance,(CtD.heap (fun F w s => s.perm (hs.h.cons F)) ((told_p e q).frame M)).mono ?_⟩
  rintro en u L' ⟨L1,⟨rfl,hu,rfl⟩,rfl⟩
  show xB Tryz.prog N fn R E [] (settle u) _
  rw [hu]
  exact ⟨v,hv,hR⟩
end
attribute [local irreducible] J JL JO Ct JG JM JQ JQ0 JS CtD xB
def FailsV (x : Value) (code at_ : Int) (L0 : List HP) : Ending → List HP → Prop := fun e L => ∃ q : Nat,e = .returned (.tuple #[x,xH q]) ∧ L = Ft q code at_ :: L0
theorem byte_short (b : Nat) (p : Option Addr) (cap : Nat) (pl : Int) : Ct Tryz.prog 99 #[ptr b] [Rd b (.slice p 0 cap) pl] (FailsV (.int .u8 0) 3 pl [Rd b (.slice p 0 cap) pl]) := by
  refine fn_retD (vs := [_]) Tryz.func99 rfl Tryz.ntmps99 (by simp) ?_
  repeat (first|(first|refine zB ?_|refine zE ?_|refine zG ?_)|(first|((first|refine zA rfl ?_);first|refine JO_defer rfl ?_|refine JO_callF rfl (cut_short b p 0 cap pl 1 (by omega)) rfl (fun q => ?_)|refine zD rfl rfl ?_|refine zC rfl rfl ?_|refine tL (by rfl) rfl (fun r => ?_))))
  exact leaves_p _ q (res_tc rfl rfl rfl rfl) ⟨_,Ent.sel,q,rfl,rfl⟩
theorem ent_cut {p : Option Addr} {n m cap c : Nat} {bs : List UInt8} {L M : List HP} (hm : m ≤ n) [Tk (Vw 1 (.slice p n cap) n (by8 bs)) L M] : Ent L (Vw 1 (.slice p m c) m (by8 (bs.take m)) :: L) :=
  (Ent.dup (Vw 1 (.slice p n cap) n (by8 bs))).trans (Ent.head fun w M hs => hs.conv fun k h => by have := vw_cut (c := c) hm k h;rw [by8_take] at this;exact this)
theorem byte_ok (b : Nat) (p : Option Addr) (cap : Nat) (pl : Int) (x : UInt8) (bs : List UInt8) (hc : bs.length + 1 ≤ cap) (hpl : 0 ≤ pl ∧ pl + 1 ≤ 9223372036854775807) :
    Ct Tryz.prog 99 #[ptr b] [Rd b (.slice p (bs.length + 1) cap) pl,Vw 1 (.slice p (bs.length + 1) cap) (bs.length + 1) (by8 (x :: bs))]
      (wF (.tuple #[.int .u8 ((x.toNat : Nat) : Int),.nilIface]) [Rd b (.slice (tailP p cap 1) (bs.length + 1 - 1) (cap - 1)) (pl + 1)]) := by
  refine fn_retD (vs := [_]) Tryz.func99 rfl Tryz.ntmps99 (by simp) ?_
  repeat (first|(first|refine zB ?_|refine zE ?_|refine zG ?_)|(first|((first|refine zA rfl ?_);first|refine JO_defer rfl ?_|refine zD rfl rfl ?_|refine zC rfl rfl ?_|refine tL (by rfl) rfl (fun r => ?_))))
  refine zA rfl (yK (vs := [ptr b,.int .i64 ((1 : Nat) : Int)]) rfl (cut_ok b p (bs.length + 1) cap pl 1 (by omega) hc (by omega)) rfl fun q _ => ?_)
  refine JL_heap (ent_cut (p := p) (n := bs.length + 1) (m := 1) (cap := cap) (c := 1) (bs := x :: bs) (by omega)) ?_
  repeat (first|(first|refine zB ?_)|(first|((first|refine zA rfl ?_);first|refine JOq (yQ rfl) rfl ?_|refine zF rfl rfl ?_|refine zH rfl rfl ?_)))
  refine zA rfl (JO_indexV1 (j := 0) rfl rfl (by decide) (.int .u8 ((x.toNat : Nat) : Int)) rfl rfl fun b o hl => ?_)
  refine zA rfl (wU rfl hl rfl ?_)
  clear hl
  repeat (first|(first|refine zE ?_|refine zV ?_)|(first|((first|refine zA rfl ?_);first|refine zC rfl rfl ?_|refine zW rfl rfl (by first | rfl | assumption) rfl ?_)))
  exact leaves_r _ (res_tc rfl rfl rfl rfl) ⟨_,Ent.sel,rfl,rfl⟩
theorem part_neg (b : Nat) (v : Value) (pl n : Int) (h : n < 0) : Ct Tryz.prog 106 #[ptr b,.int .i64 n] [Rd b v pl] (FailsV (.pointer none) 2 pl [Rd b v pl]) := by
  refine fn_retD (vs := [_,_]) Tryz.func106 rfl Tryz.ntmps106 (by simp) ?_
  repeat (first|(first|refine zB ?_|refine zE ?_|refine zG ?_)|(first|((first|refine zA rfl ?_);first|refine JO_defer rfl ?_|refine JO_callF rfl (cut_neg b v pl n h) rfl (fun q => ?_)|refine zD rfl rfl ?_|refine zC rfl rfl ?_|refine tL (by rfl) rfl (fun r => ?_))))
  exact leaves_p _ q (res_tc rfl rfl rfl rfl) ⟨_,Ent.sel,q,rfl,rfl⟩
theorem part_short (b : Nat) (p : Option Addr) (len cap : Nat) (pl n : Int) (h : (len : Int) < n) : Ct Tryz.prog 106 #[ptr b,.int .i64 n] [Rd b (.slice p len cap) pl] (FailsV (.pointer none) 3 pl [Rd b (.slice p len cap) pl]) := by
  refine fn_retD (vs := [_,_]) Tryz.func106 rfl Tryz.ntmps106 (by simp) ?_
  repeat (first|(first|refine zB ?_|refine zE ?_|refine zG ?_)|(first|((first|refine zA rfl ?_);first|refine JO_defer rfl ?_|refine JO_callF rfl (cut_short b p len cap pl n h) rfl (fun q => ?_)|refine zD rfl rfl ?_|refine zC rfl rfl ?_|refine tL (by rfl) rfl (fun r => ?_))))
  exact leaves_p _ q (res_tc rfl rfl rfl rfl) ⟨_,Ent.sel,q,rfl,rfl⟩
theorem part_ok (b : Nat) (p : Option Addr) (len cap : Nat) (pl : Int) (n : Nat) (hn : n ≤ len) (hc : len ≤ cap) (hpl : 0 ≤ pl ∧ pl + n ≤ 9223372036854775807) :
    Ct Tryz.prog 106 #[ptr b,.int .i64 (n : Int)] [Rd b (.slice p len cap) pl]
      (RetE (fun _ : Nat => True) (fun q => .tuple #[ptr q,.nilIface]) (fun q => [Rd b (.slice (tailP p cap n) (len - n) (cap - n)) (pl + n),Rd q (.slice p n n) pl])) := by
  refine fn_retD (vs := [_,_]) Tryz.func106 rfl Tryz.ntmps106 (by simp) ?_
  repeat (first|(first|refine zB ?_|refine zE ?_|refine zG ?_)|(first|((first|refine zA rfl ?_);first|refine JO_defer rfl ?_|refine zD rfl rfl ?_|refine zC rfl rfl ?_|refine tL (by rfl) rfl (fun r => ?_))))
  refine zA rfl (yK (vs := [ptr b,.int .i64 (n : Int)]) rfl (cut_ok b p len cap pl n hn hc hpl) rfl fun q _ => ?_)
  repeat (first|(first|refine zE ?_|refine zV ?_)|(first|((first|refine zA rfl ?_);first|refine zC rfl rfl ?_|refine zW rfl rfl (by first | rfl | assumption) rfl ?_)))
  exact leaves_r _ (res_tc rfl rfl rfl rfl) ⟨_,Ent.sel,q,trivial,rfl,rfl⟩
def FailsE (code at_ : Int) (L0 : List HP) : Ending → List HP → Prop := fun e L => ∃ q : Nat,e = .returned (xH q) ∧ L = Ft q code at_ :: L0
theorem end_long (b : Nat) (p : Option Addr) (len cap : Nat) (pl : Int) (h : 0 < len) : Ct Tryz.prog 46 #[ptr b] [Rd b (.slice p len cap) pl] (FailsE 4 pl [Rd b (.slice p len cap) pl]) := by
  refine fn_retD (vs := [_]) Tryz.func46 rfl Tryz.ntmps46 (by simp) ?_
  repeat (first|(first|refine zB ?_|refine zE ?_|refine zG ?_)|(first|((first|refine zA rfl ?_);first|refine JO_defer rfl ?_|refine JOq (JQ_neP rfl) rfl ?_|refine JOq (yQ rfl) rfl ?_|refine JO_callF rfl (must_fd b (.slice p len cap) pl 4 ((len : Int) = 0) (by omega)) rfl (fun q => ?_)|refine zD rfl rfl ?_|refine yF rfl rfl ?_|refine zF rfl rfl ?_|refine zH rfl rfl ?_|refine JO_eqI rfl rfl rfl ?_|refine tL (by rfl) rfl (fun r => ?_)|refine zR rfl (must_t (ptr b) 1) rfl ?_)))
  exact leaves_p _ q (res_cell1 rfl rfl rfl) ⟨_,Ent.sel,q,rfl,rfl⟩
theorem end_ok (b : Nat) (p : Option Addr) (cap : Nat) (pl : Int) : Ct Tryz.prog 46 #[ptr b] [Rd b (.slice p 0 cap) pl] (wF .nilIface [Rd b (.slice p 0 cap) pl]) := by
  refine fn_retD (vs := [_]) Tryz.func46 rfl Tryz.ntmps46 (by simp) ?_
  repeat (first|(first|refine zB ?_|refine zE ?_|refine zG ?_|refine zV ?_)|(first|((first|refine zA rfl ?_);first|refine JO_defer rfl ?_|refine JOq (JQ_neP rfl) rfl ?_|refine JOq (yQ rfl) rfl ?_|refine zD rfl rfl ?_|refine yF rfl rfl ?_|refine zF rfl rfl ?_|refine zH rfl rfl ?_|refine JO_eqI rfl rfl rfl ?_|refine tL (by rfl) rfl (fun r => ?_)|refine zW rfl rfl (by first | rfl | assumption) rfl ?_|refine zR rfl (must_t (ptr b) 1) rfl ?_|refine zR rfl (must_d (ptr b) 4 (((0 : Nat) : Int) = 0) rfl) rfl ?_)))
  exact leaves_r _ (res_cell1 rfl rfl rfl) ⟨_,Ent.sel,rfl,rfl⟩
end Go.Proofs.YtickblndgihoeaaGreatDoor

/- Calls of entries without a body;calls through interfaces. -/
namespace Go.Sp
open Go.RowKit
section
variable {P : Program} {N : Nat} {rd : Option Nat} {E : Env} {D : List Deferred} {L : List HP} {Q : uF} {next : Env → List Deferred → List HP → Prop}
variable {d : Option Nat} {ty : TypeId} {pos : String} {after : Array Edge} {g : Option (Nat × Bool)}
theorem evs_map {args : Array Operand} {vs : List Value} {a : Act} (hr : Rep N E D a) (hx : evs E args.toList = some vs) : args.map a.eval = vs.toArray := by
  rw [← hr.evals hx];apply Array.ext';simp
theorem exec_fn {f : FuncId} {args : Array Operand} {ts : Array TypeId} {vs : List Value} {a : Act} (hr : Rep N E D a) (hx : evs E args.toList = some vs) (w : World) :
    (execOp a.eval ⟨d,.call ⟨.value (.func f),args,ts⟩,ty,pos,after,g⟩).run P w = (callFunc f vs.toArray).run P w := by
  simp [execOp,resolve,evs_map hr hx,Act.eval,Deferred.ofValue,invoke]
theorem exec_inv {x : Operand} {name : String} {args : Array Operand} {ts : Array TypeId} {vs : List Value} {a : Act} {t : TypeId} {v r : Value} {f : FuncId} (hr : Rep N E D a) (hx : ev E x = some (.iface t v)) (ha : evs E args.toList = some vs)
    (hm : ∀ w,(Go.method (P.types.size + Made.depth) t v name).run P w = .ok (f,r) w) (w : World) :
    (execOp a.eval ⟨d,.call ⟨.invoke x name,args,ts⟩,ty,pos,after,g⟩).run P w = (callFunc f (r :: vs).toArray).run P w := by
  have h1 : (#[Value.iface t v] ++ vs.toArray).extract 1 (#[Value.iface t v] ++ vs.toArray).size = vs.toArray := by
    apply Array.ext'
    simp
  have h2 : (#[Value.iface t v] ++ vs.toArray)[0]? = some (Value.iface t v) := by simp
  have h0 : (execOp a.eval ⟨d,.call ⟨.invoke x name,args,ts⟩,ty,pos,after,g⟩) = (do let e ← (pure { target := .fn (.method name) #[],args := #[a.eval x] ++ args.map a.eval } : Sem Deferred);invoke e.target e.args) := rfl
  rw [h0,evs_map hr ha,hr.eval hx]
  simp only [Sem.run_bind,Sem.run_pure,Result.andThen_ok,invoke,h2,h1]
  unfold callMethod
  have h3 : ∀ (k : Program → Sem Next),Sem.run P ((program : Sem Program) >>= k) w = Sem.run P (k P) w := fun k => rfl
  rw [h3]
  simp [hm]
theorem JQ_ext {f : FuncId} {args : Array Operand} {ts : Array TypeId} {vs : List Value} {v : Value} (hx : evs E args.toList = some vs) (h : ∀ (F : HP) (w : World),Sat w (F :: L) → (callFunc f vs.toArray).run P w = .ok (.value v) w) :
    JQ P N ⟨d,.call ⟨.value (.func f),args,ts⟩,ty,pos,after,g⟩ E D L v := fun F a hr w hs => by rw [exec_fn hr hx];exact h F w hs
theorem JQ_inv {x : Operand} {name : String} {args : Array Operand} {ts : Array TypeId} {vs : List Value} {t : TypeId} {v r u : Value} {f : FuncId} (hx : ev E x = some (.iface t v)) (ha : evs E args.toList = some vs)
    (hm : ∀ w,(Go.method (P.types.size + Made.depth) t v name).run P w = .ok (f,r) w) (h : ∀ (F : HP) (w : World),Sat w (F :: L) → (callFunc f (r :: vs).toArray).run P w = .ok (.value u) w) :
    JQ P N ⟨d,.call ⟨.invoke x name,args,ts⟩,ty,pos,after,g⟩ E D L u := fun F a hr w hs => by rw [exec_inv hr hx ha hm];exact h F w hs
theorem JO_extA {f : FuncId} {args : Array Operand} {ts : Array TypeId} {vs : List Value} {v : Nat → Value} {o : Obj} (hx : evs E args.toList = some vs) (hr : ∀ w,(callFunc f vs.toArray).run P w = .ok (.value (v w.heap.size)) (w.alloc o)) (hd : dok N d = true)
    (h : ∀ b,next (put E d (v b)) D (pt b o :: L)) : JO P N rd ⟨d,.call ⟨.value (.func f),args,ts⟩,ty,pos,after,g⟩ E D L next Q :=
  JO_value (fun c => by simp) hd fun F a w hrep hs => ⟨v w.heap.size,w.alloc o,pt w.heap.size o :: L,by rw [exec_fn hrep hx,hr],(hs.new o).swap,h _⟩
theorem JO_invE {x : Operand} {name : String} {args : Array Operand} {ts : Array TypeId} {vs : List Value} {t : TypeId} {v r : Value} {f : FuncId} [hf : CF P f] {R : Ending → List HP → Prop} (hx : ev E x = some (.iface t v)) (ha : evs E args.toList = some vs)
    (hm : ∀ w,(Go.method (P.types.size + Made.depth) t v name).run P w = .ok (f,r) w) (hc : Ct P f (r :: vs).toArray L R) (hd : dok N d = true)
    (hv : ∀ u L',R (.returned u) L' → next (put E d u) D L') (hp : ∀ ch L',R (.panicked ch) L' → Q (.panic ch) E D L') : JO P N rd ⟨d,.call ⟨.invoke x name,args,ts⟩,ty,pos,after,g⟩ E D L next Q :=
  JO_enter (fun c => by simp) hd (fun a w hr => by rw [exec_inv hr hx ha hm];exact hf.h _ w) hc hv hp
theorem JO_invV {x : Operand} {name : String} {args : Array Operand} {ts : Array TypeId} {vs : List Value} {t : TypeId} {v r u : Value} {f : FuncId} [hf : CF P f] {L0 K M L1 : List HP} (hx : ev E x = some (.iface t v)) (ha : evs E args.toList = some vs)
    (hm : ∀ w,(Go.method (P.types.size + Made.depth) t v name).run P w = .ok (f,r) w) (hc : Ct P f (r :: vs).toArray K (wF u L0)) [hs : Sel K L M] [hap : AppH L0 M L1] (hd : dok N d = true)
    (h : next (put E d u) D L1) : JO P N rd ⟨d,.call ⟨.invoke x name,args,ts⟩,ty,pos,after,g⟩ E D L next Q :=
  JO_invE hx ha hm hc.use hd (fun _ _ ⟨_,⟨he,hL⟩,hL'⟩ => by cases he;rw [hL',hL,hap.h];exact h) (fun _ _ ⟨_,⟨he,_⟩,_⟩ => by cases he)
end
end Go.Sp

/- The text of an owned row of bytes. -/
namespace Go.Sp
open Go.RowKit
section
variable {P : Program} {N : Nat} {E : Env} {D : List Deferred} {L M : List HP}
variable {d : Option Nat} {ty : TypeId} {pos : String} {after : Array Edge} {g : Option (Nat × Bool)}
theorem JQ_strO {src dst e : TypeId} [TU P src (.slice e)] [TU P e (.int .u8)] [TU P dst .string] {x : Operand} {bs : List UInt8} {v : Value} {e' sz n : Nat} {cs : List Value} (hx : ev E x = some v) [ho : TkO v L e' sz n cs M] (he : sz = 1) (hn : n = bs.length) (hc : cs = by8 bs) :
    JQ P N ⟨d,.convert src dst x,ty,pos,after,g⟩ E D L (str bs) := fun F a hr w hs => by
  subst he;subst hn;subst hc
  have hs1 : Sat w (yC e' 1 v bs.length (by8 bs) :: F :: M) := (hs.perm (ho.h.cons F)).swap
  have hrun : (convert src dst v).run P w = .ok (.string ⟨bs.toArray⟩) w := by
    obtain ⟨_,⟨rfl,h0,_⟩ | ⟨b,sp,cap,rfl,_,_,_,h⟩⟩ := hs1.own_cases
    · have hb : bs = [] := List.eq_nil_of_length_eq_zero h0
      subst hb
      exact run_convert_bytes_nil (P := P) w src e TU.h TU.h 0 0 dst TU.h
    · refine run_convert_bytes_back w src dst e ⟨b,0,none⟩ cap bs TU.h TU.h TU.h fun j hj => ?_
      rw [addr_add,Nat.zero_add]
      refine cell_of h.pt_heap ?_
      rw [List.getElem?_append_left (by rw [length_by8];exact hj)]
      exact by8_get (List.getElem?_eq_getElem hj)
  simp [execOp,hr.eval hx,hrun]
end
end Go.Sp

/- A text's bytes,put behind an owned row. -/
namespace Go.Sp
open Go.RowKit Go.Lib
theorem strCells_by8 (bs : List UInt8) : strCells ⟨bs.toArray⟩ = by8 bs := by
  simp [strCells,by8]
theorem sat_appendS {P : Program} {w : World} {L : List HP} {t u e ty : Nat} (ht : P.underlying t = some (.slice e)) (hu : P.underlying u = some .string) [TI P e (.int .u8 0) 1 1] {v : Value} {n : Nat} {cs : List Value} (bs : List UInt8)
    (hs : Sat w (yC e 1 v n cs :: L)) (hb : n + bs.length ≤ 140737488355328) :
    ∃ v' w',(Builtin.append_ #[t,u] ty #[v,str bs]).run P w = .ok v' w' ∧ Sat w' (yC e 1 v' (n + bs.length) (cs ++ by8 bs) :: L) := by
  obtain ⟨i,hi,hz,hsize,hbytes⟩ := TI.h (P := P) (t := e) (z := .int .u8 0) (n := 1) (b := 1)
  have hml : n + bs.length ≤ maxLen := by simp [maxLen];omega
  have hsz : (⟨bs.toArray⟩ : ByteArray).size = bs.length := size_str bs
  obtain ⟨h0,hcase⟩ := hs.own_cases
  have grown : ∀ old,Sat w L → Sat (w.drew.alloc (.cells (cs.toArray ++ (by8 bs).toArray ++ Builtin.zeroCells (Value.int .u8 0).cells (grownCap w (n + bs.length) old e - (n + bs.length))) e))
      (yC e 1 (.slice (some ⟨w.heap.size,0,none⟩) (n + bs.length) (grownCap w (n + bs.length) old e)) (n + bs.length) (cs ++ by8 bs) :: L) := fun old hs' => by
    have hge := grownCap_ge w (n + bs.length) old e
    have hmx := grownCap_le_maxLen w (n + bs.length) old e hml
    have hnew := (hs'.world (w' := w.drew) rfl).new (.cells (cs ++ by8 bs ++ (Builtin.zeroCells (Value.int .u8 0).cells (grownCap w (n + bs.length) old e - (n + bs.length))).toList).toArray e)
    have hsz2 : w.drew.heap.size = w.heap.size := rfl
    rw [hsz2] at hnew
    have hcells : (cs ++ by8 bs ++ (Builtin.zeroCells (Value.int .u8 0).cells (grownCap w (n + bs.length) old e - (n + bs.length))).toList).toArray = cs.toArray ++ (by8 bs).toArray ++ Builtin.zeroCells (Value.int .u8 0).cells (grownCap w (n + bs.length) old e - (n + bs.length)) := by apply Array.ext';simp
    have h3 : (cs ++ by8 bs).length + (Builtin.zeroCells (Value.int .u8 0).cells (grownCap w (n + bs.length) old e - (n + bs.length))).toList.length = grownCap w (n + bs.length) old e * 1 := by
      rw [length_cells_pos (sz := 1) rfl,List.length_append,h0,length_by8];omega
    have := Sat.own_block (n := n + bs.length) (sz := 1) (cap := grownCap w (n + bs.length) old e) hnew (by simp [h0,length_by8]) hge hmx h3
    rw [hcells] at this
    exact this
  rcases hcase with ⟨rfl,rfl,hs'⟩ | ⟨b,sp,cap,rfl,hle,hcm,hlen,hs'⟩
  · have hcs : cs = [] := by simpa using h0
    subst hcs
    by_cases hm : bs = []
    · subst hm
      refine ⟨.slice none 0 0,w,?_,by simpa [by8] using hs⟩
      simp [Builtin.append_,yM ht,yM hu,sizeOf,typeInfo,hi,Builtin.lenOf,Builtin.firstCells,hsz]
    · have hpos : 0 < bs.length := List.length_pos_iff.2 hm
      have hrun := run_append_nil_string (P := P) w t u ty e i (.int .u8 0) ht hu hi hz ⟨bs.toArray⟩ (by rw [hsz];exact hpos) (by rw [hsz];omega) (by rw [hsz,hbytes];omega)
      rw [hsz] at hrun
      have hg := grown 0 hs'
      rw [Nat.zero_add] at hg ⊢
      refine ⟨_,_,hrun,?_⟩
      have e1 : (⟨bs.toArray⟩ : ByteArray).data.map (fun b => Value.int .u8 b.toNat) = (by8 bs).toArray := by apply Array.ext';simp [by8]
      rw [e1]
      simpa using hg
  · by_cases hfit : n + bs.length ≤ cap
    · have hroom := run_append_room_string (P := P) w t u ty e i ht hu hi hsize b n cap (cs ++ sp).toArray hs'.pt_heap ⟨bs.toArray⟩ (by rw [hsz];exact hfit) (by
        rw [hsz];simp only [List.size_toArray,List.length_append];omega)
      refine ⟨_,_,hroom,?_⟩
      rw [hsz,strCells_by8]
      have e1 : (cs ++ sp).take n = cs := by rw [← Nat.mul_one n,← h0];simp
      have e2 : (cs ++ sp).drop (n + bs.length) = sp.drop bs.length := by rw [← Nat.mul_one n,← h0];simp
      rw [e1,e2]
      have hb1 := hs'.pt_heap
      have hs3 : Sat (w.setRow b (cs ++ by8 bs ++ sp.drop bs.length).toArray) (pt b (.cells (cs ++ by8 bs ++ sp.drop bs.length).toArray e (0,0)) :: L) := by
        refine hs'.grown rfl rfl rfl (fun k hk hne => ?_) ?_
        · simp [World.setRow,Array.getElem?_modify,Ne.symm hne]
        · simp [World.setRow,Array.getElem?_modify,hb1]
      refine Sat.own_block hs3 ?_ hfit hcm ?_
      · simp [h0,length_by8]
      · simp only [List.length_append,List.length_drop,length_by8]
        omega
    · have hgrow := run_append_grow_string (P := P) w t u ty e i (.int .u8 0) ht hu hi hz ⟨b,0,none⟩ n cap cs (by rw [hsize];exact h0) (fun j x hj => by
        rw [addr_add,Nat.zero_add]
        exact cell_of hs'.pt_heap (by rw [List.getElem?_append_left (List.getElem?_eq_some_iff.1 hj).1];exact hj)) ⟨bs.toArray⟩ (by rw [hsz];omega) (by rw [hsz];omega)
        (by rw [hsz];exact growslice_fits (by omega) (by rw [hbytes];omega))
      rw [hsz,strCells_by8] at hgrow
      exact ⟨_,_,hgrow,grown cap hs'.tail⟩
section
variable {P : Program} {N : Nat} {rd : Option Nat} {E : Env} {D : List Deferred} {L M : List HP} {Q : uF} {next : Env → List Deferred → List HP → Prop}
variable {d : Option Nat} {ty : TypeId} {pos : String} {after : Array Edge} {g : Option (Nat × Bool)}
theorem JO_appendS {x y : Operand} {t u e n : Nat} [TU P t (.slice e)] [TU P u .string] [TI P e (.int .u8 0) 1 1] {v : Value} {cs : List Value} (bs : List UInt8) (hx : ev E x = some v) (hy : ev E y = some (str bs)) [ho : TkO v L e 1 n cs M] (hb : n + bs.length ≤ 140737488355328)
    (hd : dok N d = true) (h : ∀ v',v'.oneCell' = true → next (put E d v') D (yC e 1 v' (n + bs.length) (cs ++ by8 bs) :: M)) : JO P N rd ⟨d,.call ⟨.builtin .append,#[x,y],#[t,u]⟩,ty,pos,after,g⟩ E D L next Q :=
  JO_value (fun c => by simp) hd fun F a w hr hs => by
    have hs1 : Sat w (yC e 1 v n cs :: F :: M) := (hs.perm (ho.h.cons F)).swap
    obtain ⟨v',w',h2,h3⟩ := sat_appendS (P := P) (t := t) (u := u) (ty := ty) TU.h TU.h bs hs1 hb
    exact ⟨v',w',_,by simp [execOp,resolve,invoke,builtin,hr.eval hx,hr.eval hy,h2],h3.swap,h v' (h3.out fun _ hk => own_one hk)⟩
end
end Go.Sp

/- Layer 1: octets: a new reader;the writer. -/
namespace Go.Proofs.YtickblndgihoeaaGreatDoor
open Go Go.Sp
attribute [local irreducible] J JL JO Ct JG JM JQ JQ0 JS CtD xB
theorem newreader_c (bs : List UInt8) (hn : bs.length ≤ maxLen) : Ct Tryz.prog 43 #[str bs] [] (RetE (fun x : Nat × Nat × Nat => bs.length ≤ x.2.2) (fun x => ptr x.1) (fun x => [Rd x.1 (.slice (some ⟨x.2.1,0,none⟩) bs.length x.2.2) 0,Vw 1 (.slice (some ⟨x.2.1,0,none⟩) bs.length x.2.2) bs.length (by8 bs)])) := by
  refine yE (vs := [_]) Tryz.func43 rfl Tryz.ntmps43 (by simp) ?_
  repeat (first|(first|refine zB ?_|refine zE ?_|refine zG ?_)|(first|((first|refine zA rfl ?_);first|refine zD rfl rfl ?_|refine zC rfl rfl ?_)))
  refine zA rfl (JO_bytes (bs := bs) rfl hn rfl fun b cap hc => ?_)
  refine zA rfl (yG (cs := [.slice (some ⟨b,0,none⟩) bs.length cap,.int .i64 0]) rfl rfl rfl ?_)
  repeat (first|(first|refine zE ?_|refine zV ?_)|(first|((first|refine zA rfl ?_);first|refine zC rfl rfl ?_|refine yN rfl rfl (fun r => ?_))))
  exact ret_one rfl rfl (r,b,cap) hc rfl Ent.sel
abbrev Wr (b : Nat) (v : Value) : HP := pt b (.cells #[v] 169 (0,0))
theorem newwriter_c : Ct Tryz.prog 37 #[] [] (RetE (fun _ : Nat => True) ptr (fun b => [Wr b (.slice none 0 0),yC 5 1 (.slice none 0 0) 0 []])) := by
  refine yE (vs := []) Tryz.func37 rfl Tryz.ntmps37 (by simp) ?_
  repeat (first|(first|refine zB ?_|refine zE ?_|refine zG ?_|refine zV ?_)|(first|((first|refine zA rfl ?_);first|refine yG (cs := [.slice none 0 0]) rfl rfl rfl ?_|refine zC rfl rfl ?_|refine yN rfl rfl (fun r => ?_))))
  exact ret_one rfl rfl r trivial rfl ((Ent.cons (A := yC 5 1 (.slice none 0 0) 0 []) fun w M h => h.own_nil).trans Ent.sel)
theorem wbyte_c (b : Nat) (v : Value) (bs : List UInt8) (x : UInt8) (hb : bs.length ≤ 1000000) : Ct Tryz.prog 40 #[ptr b,.int .u8 ((x.toNat : Nat) : Int)] [Wr b v,yC 5 1 v bs.length (by8 bs)]
    (RetE (fun _ : Value => True) (fun _ => .tuple #[]) (fun v' => [Wr b v',yC 5 1 v' (bs.length + 1) (by8 bs ++ [.int .u8 ((x.toNat : Nat) : Int)])])) := by
  refine yE (vs := [_,_]) Tryz.func40 rfl Tryz.ntmps40 (by simp) ?_
  repeat (first|(first|refine zB ?_|refine zE ?_|refine zG ?_|refine zL rfl ?_)|(first|((first|refine zA rfl ?_);first|refine JOq (JQ_neP rfl) rfl ?_|refine JOq (yQ rfl) rfl ?_|refine zD rfl rfl ?_|refine zF rfl rfl ?_|refine zH rfl rfl ?_|refine yP rfl rfl rfl (by decide) rfl (fun r => ?_))))
  refine zA rfl (wM (sz := 1) (n := bs.length) (m := 1) (news := [.int .u8 ((x.toNat : Nat) : Int)]) rfl rfl wL rfl (by decide) rfl (by simp [Value.oneCell']) (by omega) (by decide) rfl fun v' hv' => ?_)
  repeat (first|(first|refine zE ?_)|(first|((first|refine zA rfl ?_);first|refine JOq (yQ rfl) rfl ?_|refine zF rfl rfl ?_|refine zW rfl rfl (by first | rfl | assumption) rfl ?_)))
  exact ⟨rfl,_,res_none rfl,_,Ent.sel,v',trivial,rfl,rfl⟩
theorem wtext_c (b : Nat) (v : Value) (bs : List UInt8) : Ct Tryz.prog 42 #[ptr b] [Wr b v,yC 5 1 v bs.length (by8 bs)] (wF (str bs) [Wr b v,yC 5 1 v bs.length (by8 bs)]) := by
  refine yE (vs := [_]) Tryz.func42 rfl Tryz.ntmps42 (by simp) ?_
  repeat (first|(first|refine zB ?_|refine zE ?_|refine zG ?_|refine zP ?_|refine zJ rfl ?_|refine zV ?_)|(first|((first|refine zA rfl ?_);first|refine JOq (JQ_eqP rfl) rfl ?_|refine JOq (yQ rfl) rfl ?_|refine JOq (JQ_strO (bs := bs) rfl rfl rfl rfl) rfl ?_|refine zD rfl rfl ?_|refine zC rfl rfl ?_|refine zF rfl rfl ?_|refine zH rfl rfl ?_)))
  exact zY rfl rfl Ent.sel
theorem wput_c (b : Nat) (v : Value) (bs xs : List UInt8) (hb : bs.length + xs.length ≤ 140737488355328) : Ct Tryz.prog 38 #[ptr b,str xs] [Wr b v,yC 5 1 v bs.length (by8 bs)]
    (RetE (fun _ : Value => True) (fun _ => .tuple #[]) (fun v' => [Wr b v',yC 5 1 v' (bs.length + xs.length) (by8 bs ++ by8 xs)])) := by
  refine yE (vs := [_,_]) Tryz.func38 rfl Tryz.ntmps38 (by simp) ?_
  repeat (first|(first|refine zB ?_|refine zE ?_|refine zG ?_|refine zL rfl ?_)|(first|((first|refine zA rfl ?_);first|refine JOq (JQ_neP rfl) rfl ?_|refine JOq (yQ rfl) rfl ?_|refine zD rfl rfl ?_|refine zF rfl rfl ?_|refine zH rfl rfl ?_)))
  refine zA rfl (JO_appendS (n := bs.length) xs rfl rfl hb rfl fun v' hv' => ?_)
  repeat (first|(first|refine zE ?_)|(first|((first|refine zA rfl ?_);first|refine JOq (yQ rfl) rfl ?_|refine zF rfl rfl ?_|refine zW rfl rfl (by first | rfl | assumption) rfl ?_)))
  exact ⟨rfl,_,res_none rfl,_,Ent.sel,v',trivial,rfl,rfl⟩
end Go.Proofs.YtickblndgihoeaaGreatDoor

/- Layer 1: octets: a reader by its bytes alone. -/
namespace Go.Proofs.YtickblndgihoeaaGreatDoor
open Go Go.Sp
def RdB (b : Nat) (bs : List UInt8) (pl : Int) : HP := fun h => ∃ x : Option Addr × Nat,bs.length ≤ x.2 ∧ Star [Rd b (.slice x.1 bs.length x.2) pl,Vw 1 (.slice x.1 bs.length x.2) bs.length (by8 bs)] h
theorem rdb_open {b : Nat} {bs : List UInt8} {pl : Int} {w : World} {L : List HP} (h : Sat w (RdB b bs pl :: L)) : ∃ p cap,bs.length ≤ cap ∧ Sat w (Rd b (.slice p bs.length cap) pl :: Vw 1 (.slice p bs.length cap) bs.length (by8 bs) :: L) := by
  obtain ⟨⟨p,cap⟩,h1⟩ := h.outE (α := Option Addr × Nat) (B := fun x k => bs.length ≤ x.2 ∧ Star [Rd b (.slice x.1 bs.length x.2) pl,Vw 1 (.slice x.1 bs.length x.2) bs.length (by8 bs)] k) (fun k ⟨x,hx⟩ => ⟨x,hx⟩)
  have h2 : bs.length ≤ cap := h1.out fun k hk => hk.1
  have h3 := h1.conv fun k hk => hk.2
  exact ⟨p,cap,h2,(Sat.fold (L1 := [Rd b (.slice p bs.length cap) pl,Vw 1 (.slice p bs.length cap) bs.length (by8 bs)])).2 h3⟩
theorem rdb_close {b : Nat} {bs : List UInt8} {pl : Int} {w : World} {L : List HP} {p : Option Addr} {cap : Nat} (hc : bs.length ≤ cap) (h : Sat w (Rd b (.slice p bs.length cap) pl :: Vw 1 (.slice p bs.length cap) bs.length (by8 bs) :: L)) : Sat w (RdB b bs pl :: L) :=
  ((Sat.fold (L1 := [Rd b (.slice p bs.length cap) pl,Vw 1 (.slice p bs.length cap) bs.length (by8 bs)])).1 h).conv fun _ hk => ⟨(p,cap),hc,hk⟩
theorem ct_rdb {f : FuncId} {args : Array Value} {b : Nat} {bs : List UInt8} {pl : Int} {R : Ending → List HP → Prop}
    (h : ∀ p cap,bs.length ≤ cap → Ct Tryz.prog f args [Rd b (.slice p bs.length cap) pl,Vw 1 (.slice p bs.length cap) bs.length (by8 bs)] R) : Ct Tryz.prog f args [RdB b bs pl] R := fun F w hs => by
  obtain ⟨p,cap,hc,h1⟩ := rdb_open hs.swap
  refine h p cap hc F w (h1.perm ?_)
  exact (List.Perm.cons _ (List.Perm.swap _ _ _)).trans (List.Perm.swap _ _ _)
theorem Ct.post {f : FuncId} {args : Array Value} {L : List HP} {R R' : Ending → List HP → Prop} (h : Ct Tryz.prog f args L R) (hr : ∀ e L',R e L' → ∃ L'',Ent L' L'' ∧ R' e L'') : Ct Tryz.prog f args L R' := fun F w hs =>
  (h F w hs).mono fun _ w' ⟨hne,_,r,s⟩ => let ⟨L'',he,r'⟩ := hr _ _ r;⟨hne,L'',r',he F w' s⟩
theorem rdb_tail {b : Nat} {bs : List UInt8} {pl : Int} {p : Option Addr} {cap n : Nat} (hn : n ≤ bs.length) (hc : bs.length ≤ cap) : Ent [Rd b (.slice (tailP p cap n) (bs.length - n) (cap - n)) pl,Vw 1 (.slice p bs.length cap) bs.length (by8 bs)] [RdB b (bs.drop n) pl] := fun F w hs => by
  have e1 : (bs.drop n).length = bs.length - n := List.length_drop
  have h1 : Sat w (Vw 1 (.slice p bs.length cap) bs.length (by8 bs) :: Rd b (.slice (tailP p cap n) (bs.length - n) (cap - n)) pl :: [F]) := hs.perm ((List.Perm.cons _ (List.Perm.swap _ _ _)).trans ((List.Perm.swap _ _ _).trans (List.Perm.cons _ (List.Perm.swap _ _ _))))
  have h2 := h1.conv fun k hk => vw_drop (c := cap - n) hn hc k hk
  rw [by8_drop,← e1] at h2
  exact (rdb_close (bs := bs.drop n) (by rw [e1];omega) h2.swap).swap
theorem rdb_same {b : Nat} {bs : List UInt8} {pl : Int} {p : Option Addr} {cap : Nat} (hc : bs.length ≤ cap) : Ent [Rd b (.slice p bs.length cap) pl,Vw 1 (.slice p bs.length cap) bs.length (by8 bs)] [RdB b bs pl] := fun _ _ hs =>
  (rdb_close hc (hs.perm ((List.Perm.swap _ _ _).trans (List.Perm.cons _ (List.Perm.swap _ _ _))))).swap
theorem keepV {b : Nat} {bs : List UInt8} {pl : Int} {p : Option Addr} {cap : Nat} : Ent [Rd b (.slice p bs.length cap) pl,Vw 1 (.slice p bs.length cap) bs.length (by8 bs)] ([Rd b (.slice p bs.length cap) pl,Vw 1 (.slice p bs.length cap) bs.length (by8 bs)] ++ [Vw 1 (.slice p bs.length cap) bs.length (by8 bs)]) :=
  (Ent.dup (Vw 1 (.slice p bs.length cap) bs.length (by8 bs))).trans (Ent.sel (K := [Rd b (.slice p bs.length cap) pl,Vw 1 (.slice p bs.length cap) bs.length (by8 bs),Vw 1 (.slice p bs.length cap) bs.length (by8 bs)]))
theorem byte_B (b : Nat) (x : UInt8) (bs : List UInt8) (pl : Int) (hpl : 0 ≤ pl ∧ pl + 1 ≤ 9223372036854775807) :
    Ct Tryz.prog 99 #[ptr b] [RdB b (x :: bs) pl] (wF (.tuple #[.int .u8 ((x.toNat : Nat) : Int),.nilIface]) [RdB b bs (pl + 1)]) :=
  ct_rdb fun p cap hc => Ct.post (Ct.heap keepV ((byte_ok b p cap pl x bs hc hpl).frame [Vw 1 (.slice p (x :: bs).length cap) (x :: bs).length (by8 (x :: bs))])) fun _ _ ⟨_,⟨he,hL⟩,hL'⟩ => ⟨_,by rw [hL',hL];exact rdb_tail (bs := x :: bs) (n := 1) (by simp) hc,he,rfl⟩
theorem place_B (b : Nat) (bs : List UInt8) (pl : Int) : Ct Tryz.prog 98 #[ptr b] [RdB b bs pl] (wF (.int .i64 pl) [RdB b bs pl]) :=
  ct_rdb fun p cap hc => Ct.post ((place_c b (.slice p bs.length cap) pl).frame [Vw 1 (.slice p bs.length cap) bs.length (by8 bs)]) fun _ _ ⟨_,⟨he,hL⟩,hL'⟩ => ⟨_,by rw [hL',hL];exact rdb_same hc,he,rfl⟩
theorem byte_shortB (b : Nat) (pl : Int) : Ct Tryz.prog 99 #[ptr b] [RdB b [] pl] (FailsV (.int .u8 0) 3 pl [RdB b [] pl]) :=
  ct_rdb fun p cap hc => Ct.post ((byte_short b p cap pl).frame [Vw 1 (.slice p ([] : List UInt8).length cap) ([] : List UInt8).length (by8 [])]) fun _ _ ⟨_,⟨q,he,hL⟩,hL'⟩ => ⟨_,by rw [hL',hL];exact Ent.keep (rdb_same hc),q,he,rfl⟩
theorem end_longB (b : Nat) (bs : List UInt8) (pl : Int) (h : 0 < bs.length) : Ct Tryz.prog 46 #[ptr b] [RdB b bs pl] (FailsE 4 pl [RdB b bs pl]) :=
  ct_rdb fun p cap hc => Ct.post ((end_long b p bs.length cap pl h).frame [Vw 1 (.slice p bs.length cap) bs.length (by8 bs)]) fun _ _ ⟨_,⟨q,he,hL⟩,hL'⟩ => ⟨_,by rw [hL',hL];exact Ent.keep (rdb_same hc),q,he,rfl⟩
theorem end_okB (b : Nat) (pl : Int) : Ct Tryz.prog 46 #[ptr b] [RdB b [] pl] (wF .nilIface [RdB b [] pl]) :=
  ct_rdb fun p cap hc => Ct.post ((end_ok b p cap pl).frame [Vw 1 (.slice p ([] : List UInt8).length cap) ([] : List UInt8).length (by8 [])]) fun _ _ ⟨_,⟨he,hL⟩,hL'⟩ => ⟨_,by rw [hL',hL];exact rdb_same hc,he,rfl⟩
theorem newreader_B (bs : List UInt8) (hn : bs.length ≤ maxLen) : Ct Tryz.prog 43 #[str bs] [] (RetE (fun _ : Nat => True) ptr (fun q => [RdB q bs 0])) :=
  Ct.post (newreader_c bs hn) fun _ _ ⟨x,hx,he,hL⟩ => ⟨_,by rw [hL];exact rdb_same hx,x.1,trivial,he,rfl⟩
theorem rdb_part {b q : Nat} {bs : List UInt8} {pl pl' : Int} {p : Option Addr} {cap n : Nat} (hn : n ≤ bs.length) (hc : bs.length ≤ cap) :
    Ent [Rd b (.slice (tailP p cap n) (bs.length - n) (cap - n)) pl',Rd q (.slice p n n) pl,Vw 1 (.slice p bs.length cap) bs.length (by8 bs)] [RdB b (bs.drop n) pl',RdB q (bs.take n) pl] := fun F w hs => by
  have e1 : (bs.take n).length = n := by rw [List.length_take];omega
  have h1 : Sat w ([F,Rd q (.slice p n n) pl,Vw 1 (.slice p n n) n (by8 (bs.take n)),Rd b (.slice (tailP p cap n) (bs.length - n) (cap - n)) pl',Vw 1 (.slice p bs.length cap) bs.length (by8 bs)]) :=
    ((ent_cut (p := p) (n := bs.length) (m := n) (cap := cap) (c := n) (bs := bs) hn).trans (Ent.sel (K := [Rd q (.slice p n n) pl,Vw 1 (.slice p n n) n (by8 (bs.take n)),Rd b (.slice (tailP p cap n) (bs.length - n) (cap - n)) pl',Vw 1 (.slice p bs.length cap) bs.length (by8 bs)]))) F w hs
  have h2 := Ent.keep (A := Vw 1 (.slice p n n) n (by8 (bs.take n))) (rdb_tail (b := b) (pl := pl') (p := p) hn hc)
  have h3 := Ent.keep (A := Rd q (.slice p n n) pl) h2 F w h1
  have h4 : Sat w (Rd q (.slice p n n) pl :: Vw 1 (.slice p n n) n (by8 (bs.take n)) :: [F,RdB b (bs.drop n) pl']) := h3.perm ((List.Perm.swap _ _ _).trans (List.Perm.cons _ (List.Perm.swap _ _ _)))
  have h5 : Sat w (RdB q (bs.take n) pl :: [F,RdB b (bs.drop n) pl']) := rdb_close (p := p) (cap := n) (by rw [e1];exact Nat.le_refl n) (by rw [e1];exact h4)
  exact h5.perm ((List.Perm.swap _ _ _).trans (List.Perm.cons _ (List.Perm.swap _ _ _)))
theorem part_B (b : Nat) (bs : List UInt8) (pl : Int) (n : Nat) (hn : n ≤ bs.length) (hpl : 0 ≤ pl ∧ pl + n ≤ 9223372036854775807) :
    Ct Tryz.prog 106 #[ptr b,.int .i64 (n : Int)] [RdB b bs pl] (RetE (fun _ : Nat => True) (fun q => .tuple #[ptr q,.nilIface]) (fun q => [RdB b (bs.drop n) (pl + n),RdB q (bs.take n) pl])) :=
  ct_rdb fun p cap hc => Ct.post ((part_ok b p bs.length cap pl n hn hc hpl).frame [Vw 1 (.slice p bs.length cap) bs.length (by8 bs)]) fun _ _ ⟨_,⟨q,hq,he,hL⟩,hL'⟩ => ⟨_,by rw [hL',hL];exact rdb_part hn hc,q,hq,he,rfl⟩
theorem part_negB (b : Nat) (bs : List UInt8) (pl n : Int) (h : n < 0) : Ct Tryz.prog 106 #[ptr b,.int .i64 n] [RdB b bs pl] (FailsV (.pointer none) 2 pl [RdB b bs pl]) :=
  ct_rdb fun p cap hc => Ct.post ((part_neg b (.slice p bs.length cap) pl n h).frame [Vw 1 (.slice p bs.length cap) bs.length (by8 bs)]) fun _ _ ⟨_,⟨q,he,hL⟩,hL'⟩ => ⟨_,by rw [hL',hL];exact Ent.keep (rdb_same hc),q,he,rfl⟩
theorem part_shortB (b : Nat) (bs : List UInt8) (pl n : Int) (h : (bs.length : Int) < n) : Ct Tryz.prog 106 #[ptr b,.int .i64 n] [RdB b bs pl] (FailsV (.pointer none) 3 pl [RdB b bs pl]) :=
  ct_rdb fun p cap hc => Ct.post ((part_short b p bs.length cap pl n h).frame [Vw 1 (.slice p bs.length cap) bs.length (by8 bs)]) fun _ _ ⟨_,⟨q,he,hL⟩,hL'⟩ => ⟨_,by rw [hL',hL];exact Ent.keep (rdb_same hc),q,he,rfl⟩
end Go.Proofs.YtickblndgihoeaaGreatDoor

/- Layer 1: the document's reader. -/
namespace Go.Proofs.YtickblndgihoeaaGreatDoor
open Go Go.Sp
attribute [local irreducible] J JL JO Ct JG JM JQ JQ0 JS CtD xB
abbrev Dr (b : Nat) (s : List UInt8) (at_ begin_ : Int) : HP := pt b (.cells #[str s,.int .i64 at_,.int .i64 begin_] 210 (0,0))
abbrev uC (code at_ : Int) : Value := .agg #[.int .i64 code,.int .i64 at_]
theorem dplace_c (b : Nat) (s : List UInt8) (at_ bg : Int) (h : -9223372036854775808 ≤ bg + at_ ∧ bg + at_ ≤ 9223372036854775807) : Ct Tryz.prog 75 #[ptr b] [Dr b s at_ bg] (wF (.int .i64 (bg + at_)) [Dr b s at_ bg]) := by
  refine yE (vs := [_]) Tryz.func75 rfl Tryz.ntmps75 (by simp) ?_
  repeat (first|(first|refine zB ?_|refine zE ?_|refine zG ?_)|(first|((first|refine zA rfl ?_);first|refine zC rfl rfl ?_)))
  refine J_calm ?_
  refine vO ?_
  repeat (first|refine tA rfl ?_|refine JG_n rfl rfl rfl (by kernel_rfl) (by kernel_rfl) rfl Ent.sel (by first|exact yQ rfl|exact xE rfl|exact vT rfl|exact xL rfl|exact xP rfl|exact JQ_add rfl rfl (by omega)) ?_)
  repeat (first|(first|refine zV ?_)|(first|((first|refine zA rfl ?_);first|refine zD rfl rfl ?_)))
  exact zY rfl rfl Ent.sel
theorem dleft_c (b : Nat) (s : List UInt8) (at_ bg : Int) (h : -9223372036854775808 ≤ (s.length : Int) - at_ ∧ (s.length : Int) - at_ ≤ 9223372036854775807) : Ct Tryz.prog 162 #[ptr b] [Dr b s at_ bg] (wF (.int .i64 ((s.length : Int) - at_)) [Dr b s at_ bg]) := by
  have hs : (((⟨s.toArray⟩ : ByteArray).size : Nat) : Int) = (s.length : Int) := by rw [size_str]
  refine yE (vs := [_]) Tryz.func162 rfl Tryz.ntmps162 (by simp) ?_
  rw [← hs] at h ⊢
  repeat (first|(first|refine zB ?_|refine zE ?_|refine zG ?_)|(first|((first|refine zA rfl ?_);first|refine zC rfl rfl ?_)))
  refine J_calm ?_
  refine vO ?_
  repeat (first|refine tA rfl ?_|refine JG_n rfl rfl rfl (by kernel_rfl) (by kernel_rfl) rfl Ent.sel (by first|exact yQ rfl|exact JQ_lenS rfl|exact xE rfl|exact vT rfl|exact xL rfl|exact xP rfl|exact JQ_sub rfl rfl (by omega)) ?_)
  repeat (first|(first|refine zV ?_)|(first|((first|refine zA rfl ?_);first|refine zD rfl rfl ?_)))
  exact zY rfl rfl Ent.sel
theorem dfault_c (b : Nat) (s : List UInt8) (at_ bg code : Int) (h : -9223372036854775808 ≤ bg + at_ ∧ bg + at_ ≤ 9223372036854775807) : Ct Tryz.prog 163 #[ptr b,.int .i64 code] [Dr b s at_ bg] (wF (uC code (bg + at_)) [Dr b s at_ bg]) := by
  refine yE (vs := [_,_]) Tryz.func163 rfl Tryz.ntmps163 (by simp) ?_
  repeat (first|(first|refine zB ?_|refine zE ?_|refine zG ?_|refine zV ?_)|(first|((first|refine zA rfl ?_);first|refine yG (cs := [.int .i64 code,.int .i64 (bg + at_)]) rfl rfl rfl ?_|refine zD rfl rfl ?_|refine zS rfl (fun r => ?_)|refine zO rfl rfl (by rfl) (by rfl) (by first | decide | simp [Value.oneCell']) rfl ?_|refine zN rfl (dplace_c b s at_ bg h) rfl ?_)))
  exact ⟨rfl,_,wT (n := 2) (cs := [.int .i64 code,.int .i64 (bg + at_)]) rfl rfl rfl,_,Ent.sel,rfl,rfl⟩
theorem dtake_neg (b : Nat) (s : List UInt8) (at_ bg n : Int) (h : -9223372036854775808 ≤ bg + at_ ∧ bg + at_ ≤ 9223372036854775807) (hn : n < 0) : Ct Tryz.prog 160 #[ptr b,.int .i64 n] [Dr b s at_ bg] (wF (.tuple #[.string ⟨#[]⟩,uC 2 (bg + at_)]) [Dr b s at_ bg]) := by
  refine yE (vs := [_,_]) Tryz.func160 rfl Tryz.ntmps160 (by simp) ?_
  repeat (first|(first|refine zB ?_|refine zE ?_|refine zG ?_)|(first|((first|refine zA rfl ?_);first|refine zD rfl rfl ?_|refine zC rfl rfl ?_|refine JO_lss rfl rfl rfl ?_|refine zS rfl (fun r => ?_))))
  refine J_condP rfl (fun _ => ?_) (fun h0 => absurd hn h0)
  repeat (first|(first|refine zB ?_|refine zE ?_|refine zG ?_|refine zV ?_)|(first|((first|refine zA rfl ?_);first|refine zD rfl rfl ?_|refine zC rfl rfl ?_|refine zO rfl rfl (by rfl) (by rfl) (by first | decide | simp [Value.oneCell']) rfl ?_|refine zN rfl (dfault_c b s at_ bg 2 h) rfl ?_)))
  exact ⟨rfl,_,res_tcW (n := 2) (cs := [.int .i64 2,.int .i64 (bg + at_)]) rfl rfl rfl rfl,_,Ent.sel,rfl,rfl⟩
theorem dtake_short (b : Nat) (s : List UInt8) (at_ bg n : Int) (h : -9223372036854775808 ≤ bg + at_ ∧ bg + at_ ≤ 9223372036854775807) (hl : -9223372036854775808 ≤ (s.length : Int) - at_ ∧ (s.length : Int) - at_ ≤ 9223372036854775807) (h0 : 0 ≤ n) (hn : (s.length : Int) - at_ < n) :
    Ct Tryz.prog 160 #[ptr b,.int .i64 n] [Dr b s at_ bg] (wF (.tuple #[.string ⟨#[]⟩,uC 3 (bg + at_)]) [Dr b s at_ bg]) := by
  refine yE (vs := [_,_]) Tryz.func160 rfl Tryz.ntmps160 (by simp) ?_
  repeat (first|(first|refine zB ?_|refine zE ?_|refine zG ?_)|(first|((first|refine zA rfl ?_);first|refine zD rfl rfl ?_|refine zC rfl rfl ?_|refine JO_lss rfl rfl rfl ?_|refine zS rfl (fun r => ?_))))
  refine J_condP rfl (fun h1 => absurd h0 (by omega)) (fun _ => ?_)
  repeat (first|(first|refine zB ?_|refine zE ?_|refine zG ?_|refine zP ?_)|(first|((first|refine zA rfl ?_);first|refine zD rfl rfl ?_|refine JO_gtr rfl rfl rfl ?_|refine zN rfl (dleft_c b s at_ bg hl) rfl ?_)))
  refine J_condP rfl (fun _ => ?_) (fun h1 => absurd hn h1)
  repeat (first|(first|refine zB ?_|refine zE ?_|refine zG ?_|refine zV ?_)|(first|((first|refine zA rfl ?_);first|refine zD rfl rfl ?_|refine zC rfl rfl ?_|refine zO rfl rfl (by rfl) (by rfl) (by first | decide | simp [Value.oneCell']) rfl ?_|refine zN rfl (dfault_c b s at_ bg 3 h) rfl ?_)))
  exact ⟨rfl,_,res_tcW (n := 2) (cs := [.int .i64 3,.int .i64 (bg + at_)]) rfl rfl rfl rfl,_,Ent.sel,rfl,rfl⟩
theorem dtake_ok (b : Nat) (s : List UInt8) (k : Nat) (bg : Int) (n : Nat) (hk : k ≤ s.length) (hs : s.length ≤ 1000000) (hn : n ≤ s.length - k) :
    Ct Tryz.prog 160 #[ptr b,.int .i64 (n : Int)] [Dr b s (k : Int) bg] (wF (.tuple #[str ((s.take (k + n)).drop k),uC 0 0]) [Dr b s ((k + n : Nat) : Int) bg]) := by
  refine yE (vs := [_,_]) Tryz.func160 rfl Tryz.ntmps160 (by simp) ?_
  repeat (first|(first|refine zB ?_|refine zE ?_|refine zG ?_|refine zP ?_|refine zJ rfl ?_)|(first|((first|refine zA rfl ?_);first|refine zD rfl rfl ?_|refine zC rfl rfl ?_|refine JO_lss rfl rfl rfl ?_|refine JO_gtr rfl rfl rfl ?_|refine zS rfl (fun r => ?_)|refine zN rfl (dleft_c b s (k : Int) bg (by omega)) rfl ?_)))
  refine J_condP (p := (s.length : Int) - (k : Int) < (n : Int)) rfl (fun h1 => absurd h1 (by omega)) (fun _ => ?_)
  repeat (first|(first|refine zG ?_|refine zP ?_)|(first|((first|refine zA rfl ?_);first|refine zD rfl rfl ?_)))
  refine J_calm ?_
  refine vO ?_
  repeat (first|refine tA rfl ?_|refine JG_n rfl rfl rfl (by kernel_rfl) (by kernel_rfl) rfl Ent.sel (by first|exact yQ rfl|exact JQ_sliceS (bs := s) (l := k) (h := k + n) rfl rfl (by rfl) (by omega) (by omega)|exact xE rfl|exact vT rfl|exact xL rfl|exact xP rfl|exact JQ_add rfl rfl (by omega)) ?_)
  repeat (first|(first|refine zB ?_|refine zE ?_|refine zG ?_|refine zV ?_)|(first|((first|refine zA rfl ?_);first|refine JOq (yQ rfl) rfl ?_|refine yG (cs := [.int .i64 0,.int .i64 0]) rfl rfl rfl ?_|refine zD rfl rfl ?_|refine zC rfl rfl ?_|refine zF rfl rfl ?_|refine zH rfl rfl ?_|refine yZ rfl rfl (by omega) rfl ?_|refine zW rfl rfl (by first | rfl | assumption) rfl ?_|refine zO rfl rfl (by rfl) (by rfl) (by first | decide | simp [Value.oneCell']) rfl ?_)))
  exact ⟨rfl,_,res_tcW (n := 2) (cs := [.int .i64 0,.int .i64 0]) rfl rfl rfl rfl,_,Ent.sel,rfl,rfl⟩
theorem dend_long (b : Nat) (s : List UInt8) (at_ bg : Int) (h : -9223372036854775808 ≤ bg + at_ ∧ bg + at_ ≤ 9223372036854775807) (hl : -9223372036854775808 ≤ (s.length : Int) - at_ ∧ (s.length : Int) - at_ ≤ 9223372036854775807) (hn : 0 < (s.length : Int) - at_) :
    Ct Tryz.prog 126 #[ptr b] [Dr b s at_ bg] (wF (uC 4 (bg + at_)) [Dr b s at_ bg]) := by
  refine yE (vs := [_]) Tryz.func126 rfl Tryz.ntmps126 (by simp) ?_
  repeat (first|(first|refine zB ?_|refine zE ?_|refine zG ?_)|(first|((first|refine zA rfl ?_);first|refine zD rfl rfl ?_|refine JO_gtr rfl rfl rfl ?_|refine zS rfl (fun r => ?_)|refine zN rfl (dleft_c b s at_ bg hl) rfl ?_)))
  refine J_condP (p := 0 < (s.length : Int) - at_) rfl (fun _ => ?_) (fun h1 => absurd hn h1)
  repeat (first|(first|refine zB ?_|refine zE ?_|refine zG ?_|refine zV ?_)|(first|((first|refine zA rfl ?_);first|refine zD rfl rfl ?_|refine zO rfl rfl (by rfl) (by rfl) (by first | decide | simp [Value.oneCell']) rfl ?_|refine zN rfl (dfault_c b s at_ bg 4 h) rfl ?_)))
  exact ⟨rfl,_,wT (n := 2) (cs := [.int .i64 4,.int .i64 (bg + at_)]) rfl rfl rfl,_,Ent.sel,rfl,rfl⟩
theorem dend_ok (b : Nat) (s : List UInt8) (at_ bg : Int) (hl : -9223372036854775808 ≤ (s.length : Int) - at_ ∧ (s.length : Int) - at_ ≤ 9223372036854775807) (hn : ¬ 0 < (s.length : Int) - at_) :
    Ct Tryz.prog 126 #[ptr b] [Dr b s at_ bg] (wF (uC 0 0) [Dr b s at_ bg]) := by
  refine yE (vs := [_]) Tryz.func126 rfl Tryz.ntmps126 (by simp) ?_
  repeat (first|(first|refine zB ?_|refine zE ?_|refine zG ?_)|(first|((first|refine zA rfl ?_);first|refine zD rfl rfl ?_|refine JO_gtr rfl rfl rfl ?_|refine zS rfl (fun r => ?_)|refine zN rfl (dleft_c b s at_ bg hl) rfl ?_)))
  refine J_condP (p := 0 < (s.length : Int) - at_) rfl (fun h1 => absurd h1 hn) (fun _ => ?_)
  repeat (first|(first|refine zB ?_|refine zE ?_|refine zG ?_|refine zP ?_|refine zV ?_)|(first|((first|refine zA rfl ?_);first|refine yG (cs := [.int .i64 0,.int .i64 0]) rfl rfl rfl ?_|refine zO rfl rfl (by rfl) (by rfl) (by first | decide | simp [Value.oneCell']) rfl ?_)))
  exact ⟨rfl,_,wT (n := 2) (cs := [.int .i64 0,.int .i64 0]) rfl rfl rfl,_,Ent.sel,rfl,rfl⟩
theorem dbyte_short (b : Nat) (s : List UInt8) (at_ bg : Int) (h : -9223372036854775808 ≤ bg + at_ ∧ bg + at_ ≤ 9223372036854775807) (hl : -9223372036854775808 ≤ (s.length : Int) - at_ ∧ (s.length : Int) - at_ ≤ 9223372036854775807) (hn : (s.length : Int) - at_ < 1) :
    Ct Tryz.prog 123 #[ptr b] [Dr b s at_ bg] (wF (.tuple #[.int .u8 0,uC 3 (bg + at_)]) [Dr b s at_ bg]) := by
  refine yE (vs := [_]) Tryz.func123 rfl Tryz.ntmps123 (by simp) ?_
  repeat (first|(first|refine zB ?_|refine zE ?_|refine zG ?_|refine zL rfl ?_)|(first|((first|refine zA rfl ?_);first|refine zD rfl rfl ?_|refine zC rfl rfl ?_|refine zF rfl rfl ?_|refine zH rfl rfl ?_|refine JO_neI rfl rfl rfl ?_|refine zT rfl rfl rfl ?_|refine zS rfl (fun r => ?_)|refine zO rfl rfl (by rfl) (by rfl) (by first | decide | simp [Value.oneCell']) rfl ?_|refine zN rfl (dtake_short b s at_ bg 1 h hl (by omega) hn) rfl ?_)))
  rename_i r3
  refine J_calm ?_
  refine J_regionGS [pt r (.cells #[.int .i64 3,.int .i64 (bg + at_)] 87 (0,0))] ?_
  repeat (first|refine JG_n rfl rfl rfl (by kernel_rfl) (by kernel_rfl) rfl Ent.sel (by first|exact xF [.int .i64 3,.int .i64 (bg + at_)] rfl (fun i u hu => wB (by rw [Nat.zero_add];exact hu)) rfl|exact vT rfl) ?_)
  refine JG_one 2 rfl rfl (by kernel_rfl) xC (zO rfl rfl (by rfl) (by rfl) (by simp [Value.oneCell']) rfl ⟨Ent.sel,?_⟩)
  repeat (first|refine tA rfl ?_)
  repeat (first|(first|refine zV ?_)|(first|((first|refine zA rfl ?_);first|refine zD rfl rfl ?_)))
  exact ⟨rfl,_,res_tcW (n := 2) (cs := [.int .i64 3,.int .i64 (bg + at_)]) rfl rfl rfl rfl,_,Ent.sel,rfl,rfl⟩
theorem dbyte_ok (b : Nat) (s : List UInt8) (k : Nat) (bg : Int) (c : UInt8) (hs : s.length ≤ 1000000) (hc : s[k]? = some c) :
    Ct Tryz.prog 123 #[ptr b] [Dr b s (k : Int) bg] (wF (.tuple #[.int .u8 ((c.toNat : Nat) : Int),uC 0 0]) [Dr b s ((k + 1 : Nat) : Int) bg]) := by
  have hk : k < s.length := (List.getElem?_eq_some_iff.1 hc).1
  have hs1 : ((s.take (k + 1)).drop k)[0]? = some c := by
    rw [List.getElem?_drop,List.getElem?_take,if_pos (by omega)]
    exact hc
  have ht : Ct Tryz.prog 160 #[ptr b,.int .i64 1] [Dr b s (k : Int) bg] (wF (.tuple #[str ((s.take (k + 1)).drop k),uC 0 0]) [Dr b s ((k + 1 : Nat) : Int) bg]) := dtake_ok b s k bg 1 (by omega) hs (by omega)
  refine yE (vs := [_]) Tryz.func123 rfl Tryz.ntmps123 (by simp) ?_
  repeat (first|(first|refine zB ?_|refine zE ?_|refine zG ?_|refine zP ?_|refine zJ rfl ?_)|(first|((first|refine zA rfl ?_);first|refine zD rfl rfl ?_|refine zC rfl rfl ?_|refine zF rfl rfl ?_|refine zH rfl rfl ?_|refine JO_neI rfl rfl rfl ?_|refine zT rfl rfl rfl ?_|refine zS rfl (fun r => ?_)|refine zO rfl rfl (by rfl) (by rfl) (by first | decide | simp [Value.oneCell']) rfl ?_|refine zN rfl (ht) rfl ?_)))
  rename_i r3
  refine J_calm ?_
  refine J_regionGS [pt r (.cells #[.int .i64 0,.int .i64 0] 87 (0,0))] ?_
  repeat (first|refine JG_n rfl rfl rfl (by kernel_rfl) (by kernel_rfl) rfl Ent.sel (by first|exact JQ_idxS (bs := (s.take (k + 1)).drop k) (i := 0) (c := c) rfl rfl hs1|exact xF [.int .i64 0,.int .i64 0] rfl (fun i u hu => wB (by rw [Nat.zero_add];exact hu)) rfl|exact xE rfl|exact vT rfl) ?_)
  refine JG_one 4 rfl rfl (by kernel_rfl) xC (zO rfl rfl (by rfl) (by rfl) (by simp [Value.oneCell']) rfl ⟨Ent.sel,?_⟩)
  repeat (first|refine tA rfl ?_)
  repeat (first|(first|refine zV ?_)|(first|((first|refine zA rfl ?_);first|refine zD rfl rfl ?_)))
  exact ⟨rfl,_,res_tcW (n := 2) (cs := [.int .i64 0,.int .i64 0]) rfl rfl rfl rfl,_,Ent.sel,rfl,rfl⟩
end Go.Proofs.YtickblndgihoeaaGreatDoor

/- Layer 1: the document's reader: a part. -/
namespace Go.Proofs.YtickblndgihoeaaGreatDoor
open Go Go.Sp
attribute [local irreducible] J JL JO Ct JG JM JQ JQ0 JS CtD xB
theorem dpart_fails (b : Nat) (s : List UInt8) (at_ bg n code : Int) (h : -9223372036854775808 ≤ bg + at_ ∧ bg + at_ ≤ 9223372036854775807) (hcode : code ≠ 0)
    (ht : Ct Tryz.prog 160 #[ptr b,.int .i64 n] [Dr b s at_ bg] (wF (.tuple #[.string ⟨#[]⟩,uC code (bg + at_)]) [Dr b s at_ bg])) :
    Ct Tryz.prog 125 #[ptr b,.int .i64 n] [Dr b s at_ bg] (wF (.tuple #[.pointer none,uC code (bg + at_)]) [Dr b s at_ bg]) := by
  refine yE (vs := [_,_]) Tryz.func125 rfl Tryz.ntmps125 (by simp) ?_
  repeat (first|(first|refine zB ?_|refine zE ?_|refine zG ?_)|(first|((first|refine zA rfl ?_);first|refine zD rfl rfl ?_|refine zC rfl rfl ?_|refine zF rfl rfl ?_|refine zH rfl rfl ?_|refine JO_neI rfl rfl rfl ?_|refine zT rfl rfl rfl ?_|refine zS rfl (fun r => ?_)|refine zO rfl rfl (by rfl) (by rfl) (by first | decide | simp [Value.oneCell']) rfl ?_|refine zN rfl (dplace_c b s at_ bg h) rfl ?_|refine zN rfl (ht) rfl ?_)))
  refine J_condP (p := code ≠ 0) rfl (fun _ => ?_) (fun h1 => absurd hcode h1)
  repeat (first|(first|refine zG ?_)|(first|((first|refine zA rfl ?_);first|refine zD rfl rfl ?_)))
  refine J_calm ?_
  refine J_regionGS [pt r (.cells #[.int .i64 code,.int .i64 (bg + at_)] 87 (0,0))] ?_
  repeat (first|refine JG_n rfl rfl rfl (by kernel_rfl) (by kernel_rfl) rfl Ent.sel (by first|exact xF [.int .i64 code,.int .i64 (bg + at_)] rfl (fun i u hu => wB (by rw [Nat.zero_add];exact hu)) rfl|exact vT rfl) ?_)
  refine JG_one 2 rfl rfl (by kernel_rfl) xC (zO rfl rfl (by rfl) (by rfl) (by simp [Value.oneCell']) rfl ⟨Ent.sel,?_⟩)
  repeat (first|refine tA rfl ?_)
  repeat (first|(first|refine zV ?_)|(first|((first|refine zA rfl ?_);first|refine zD rfl rfl ?_)))
  exact ⟨rfl,_,res_tcW (n := 2) (cs := [.int .i64 code,.int .i64 (bg + at_)]) rfl rfl rfl rfl,_,Ent.sel,rfl,rfl⟩
theorem dpart_ok (b : Nat) (s : List UInt8) (k : Nat) (bg : Int) (n : Nat) (hk : k ≤ s.length) (hs : s.length ≤ 1000000) (hn : n ≤ s.length - k) (h : -9223372036854775808 ≤ bg + (k : Int) ∧ bg + (k : Int) ≤ 9223372036854775807) :
    Ct Tryz.prog 125 #[ptr b,.int .i64 (n : Int)] [Dr b s (k : Int) bg] (RetE (fun _ : Nat => True) (fun q => .tuple #[ptr q,uC 0 0]) (fun q => [Dr b s ((k + n : Nat) : Int) bg,Dr q ((s.take (k + n)).drop k) 0 (bg + (k : Int))])) := by
  refine yE (vs := [_,_]) Tryz.func125 rfl Tryz.ntmps125 (by simp) ?_
  repeat (first|(first|refine zB ?_|refine zE ?_|refine zG ?_|refine zP ?_|refine zJ rfl ?_)|(first|((first|refine zA rfl ?_);first|refine zD rfl rfl ?_|refine zC rfl rfl ?_|refine zF rfl rfl ?_|refine zH rfl rfl ?_|refine JO_neI rfl rfl rfl ?_|refine zT rfl rfl rfl ?_|refine zS rfl (fun r => ?_)|refine zO rfl rfl (by rfl) (by rfl) (by first | decide | simp [Value.oneCell']) rfl ?_|refine zN rfl (dplace_c b s (k : Int) bg h) rfl ?_|refine zN rfl (dtake_ok b s k bg n hk hs hn) rfl ?_)))
  rename_i r3
  refine J_calm ?_
  refine J_regionGS [pt r (.cells #[.int .i64 0,.int .i64 0] 87 (0,0))] ?_
  repeat (first|refine JG_n rfl rfl rfl (by kernel_rfl) (by kernel_rfl) rfl Ent.sel (by first|exact JQ_build (cs := [str ((s.take (k + n)).drop k),.int .i64 0,.int .i64 (bg + (k : Int))]) rfl rfl|exact xE rfl) ?_)
  refine JG_take 4 rfl rfl (by kernel_rfl) (by kernel_rfl) (by kernel_rfl) rfl Ent.sel (xF [.int .i64 0,.int .i64 0] rfl (fun i u hu => wB (by rw [Nat.zero_add];exact hu)) rfl) ?_
  refine JG_one 3 rfl rfl (by kernel_rfl) plain_box (yN rfl rfl (fun q => ⟨Ent.sel,?_⟩))
  repeat (first|refine JG_n rfl rfl rfl (by kernel_rfl) (by kernel_rfl) rfl Ent.sel (by first|exact vT rfl) ?_)
  refine JG_one 6 rfl rfl (by kernel_rfl) xC (zO rfl rfl (by rfl) (by rfl) (by simp [Value.oneCell']) rfl ⟨Ent.sel,?_⟩)
  repeat (first|refine tA rfl ?_)
  repeat (first|(first|refine zV ?_)|(first|((first|refine zA rfl ?_);first|refine zD rfl rfl ?_)))
  exact ⟨rfl,_,res_tcW (n := 2) (cs := [.int .i64 0,.int .i64 0]) rfl rfl rfl rfl,_,Ent.sel,q,trivial,rfl,rfl⟩
end Go.Proofs.YtickblndgihoeaaGreatDoor
