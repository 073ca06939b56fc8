/- Panics; deferred calls; functions that recover. -/
import Derived.Test.YtejhdhmopiahhaaDoorSp21
import Derived.RecoverIn
namespace Go.Sp
open Go.RowKit
section
variable {P : Program} {N : Nat} {rd : Option Nat} {E : Env} {D : List Deferred} {L : List HP} {Q : Post} {next : Env → List Deferred → List HP → Prop}
variable {d : Option Nat} {ty : TypeId} {pos : String} {after : Array Edge} {g : Option (Nat × Bool)}
theorem JO_panic {x : Operand} {t : TypeId} {v : Value} (hx : ev E x = some (.iface t v)) (h : Q (.panic [{ v := .iface t v, recovered := false }]) E D L) : JO P N rd ⟨d, .panic x, ty, pos, after, g⟩ E D L next Q := by
  intro F a w hr hs nx hnx
  refine ⟨fun _ _ => trivial, ?_⟩
  rw [Oper.semAt_eq _ _ _ (fun c => by simp)]
  have e : (execOp a.eval ⟨d, .panic x, ty, pos, after, g⟩).run P w = .halt (.panic (.iface t v)) w := by
    have e0 : (Instr.panic (.iface t v)).run P w = .halt (.panic (.iface t v)) w := rfl
    simp [execOp, hr.eval hx, e0, Result.andThen]
  rw [e, Oper.uponIn_panic]
  exact ⟨E, D, L, h, hr, hs⟩
theorem JO_defer {f : FuncId} {args : Array Operand} {ts : Array TypeId} {vs : List Value} (hx : evs E args.toList = some vs) (h : next E (⟨.fn (.func f) #[], vs.toArray⟩ :: D) L) :
    JO P N none ⟨none, .defer ⟨.value (.func f), args, ts⟩, ty, pos, after, g⟩ E D L next Q := by
  intro F a w hr hs nx hnx
  refine ⟨fun _ _ => trivial, ?_⟩
  have e1 : args.map a.eval = vs.toArray := by rw [← hr.evals hx]; apply Array.ext'; simp
  have e : (Oper.semAt (FW none).round a.eval ⟨none, .defer ⟨.value (.func f), args, ts⟩, ty, pos, after, g⟩).run P w = .ok (.defer ⟨.fn (.func f) #[], vs.toArray⟩) w := by
    rw [show (FW none).round = none from rfl, Oper.semAt_none]
    simp [execOp, resolve, e1, Act.eval, Deferred.ofValue]
  rw [e, Oper.uponIn_defer]
  refine hnx _ _ _ _ _ h ⟨hr.1, ?_, hr.2.2⟩ hs
  simp [Act.put, hr.2.1]
end
/-- The contract of a deferred call, in a frame that leaves so. -/
def CtD (P : Program) (f : FuncId) (args : Array Value) (u : FrameMode) (L : List HP) (R : Ending → FrameMode → List HP → Prop) : Prop :=
  ∀ (F : HP) (w : World), Sat w (F :: L) → CallsDIn (FW none) 0 P f args u w fun e u' w' => e ≠ .outgrown ∧ ∃ L', R e u' L' ∧ Sat w' (F :: L')
theorem callsD_mono {F : Fence} {n : Nat} {P : Program} {f : FuncId} {args : Array Value} {u : FrameMode} {w : World} {R R' : Ending → FrameMode → World → Prop} (h : CallsDIn F n P f args u w R) (hr : ∀ e u' w', R e u' w' → R' e u' w') : CallsDIn F n P f args u w R' :=
  ⟨h.1, fun c cs hu hroom => let ⟨e, u', w', fr, r, rest⟩ := h.2 c cs hu hroom; ⟨e, u', w', fr, hr _ _ _ r, rest⟩⟩
theorem CtD.mono {P : Program} {f : FuncId} {args : Array Value} {u : FrameMode} {L : List HP} {R R' : Ending → FrameMode → List HP → Prop} (h : CtD P f args u L R) (hr : ∀ e u' L', R e u' L' → R' e u' L') : CtD P f args u L R' :=
  fun F w hs => callsD_mono (h F w hs) fun _ _ _ ⟨hne, L', r, s⟩ => ⟨hne, L', hr _ _ _ r, s⟩
theorem CtD.frame {P : Program} {f : FuncId} {args : Array Value} {u : FrameMode} {L : List HP} {R : Ending → FrameMode → List HP → Prop} (h : CtD P f args u L R) (M : List HP) : CtD P f args u (L ++ M) fun e u' L'' => ∃ L', R e u' L' ∧ L'' = L' ++ M := by
  intro F w hs
  have hs' : Sat w (Star (F :: M) :: L) := by
    refine Sat.fold.1 (hs.perm ?_)
    refine List.Perm.cons F ?_
    exact List.perm_append_comm
  refine callsD_mono (h _ w hs') ?_
  rintro e u' w' ⟨hne, L', hR, hs2⟩
  refine ⟨hne, L' ++ M, ⟨L', hR, rfl⟩, ?_⟩
  refine (Sat.fold.2 hs2).perm ?_
  exact List.Perm.cons F List.perm_append_comm
theorem CtD.heap {P : Program} {f : FuncId} {args : Array Value} {u : FrameMode} {L L' : List HP} {R : Ending → FrameMode → List HP → Prop} (hL : Ent L L') (h : CtD P f args u L' R) : CtD P f args u L R := fun F w hs => h F w (hL F w hs)
/-- How a frame leaves. -/
def LeavesQ (P : Program) (N : Nat) (fn : Func) (R : Ending → List HP → Prop) (E : Env) : List Deferred → FrameMode → List HP → Prop
  | [], .returning, L => ∃ v, Res P N fn E L v ∧ R (.returned v) L
  | [], .panicking ch, L => R (.panicked ch) L
  | [], .run, _ => False
  | d :: ds, u, L => u ≠ .run ∧ ∃ f, d.target = .fn (.func f) #[] ∧ CF P f ∧ CtD P f d.args u L fun e u' L' => match e with
    | .returned _ => LeavesQ P N fn R E ds (settle u') L'
    | .panicked ch => LeavesQ P N fn R E ds (raised u' ch) L'
    | .outgrown => False
section
variable {P : Program} {N : Nat} {fn : Func} {R : Ending → List HP → Prop}
theorem leaves_q : ∀ (ds : List Deferred) (u : FrameMode) (L : List HP) (E : Env) (D0 : List Deferred) (F : HP) (a : Act) (w : World), LeavesQ P N fn R E ds u L → Rep N E D0 a → Sat w (F :: L) →
    LeavesIn (FW none) 0 P fn a.tmps (fun e w' => e ≠ .outgrown ∧ ∃ L', R e L' ∧ Sat w' (F :: L')) ds u w := by
  intro ds
  induction ds with
  | nil =>
    intro u L E D0 F a w h hr hs
    cases u with
    | run => exact h.elim
    | returning => obtain ⟨v, hv, hR⟩ := h; exact ⟨v, hv F a w D0 hr hs, by simp, L, hR, hs⟩
    | panicking ch => exact ⟨by simp, L, h, hs⟩
  | cons d ds ih =>
    intro u L E D0 F a w h hr hs
    obtain ⟨hu, f, ht, hcf, hc⟩ := h
    refine ⟨hu, fun h => by simp [FW, Fence.wide] at h, .func f, #[], f, d.args, ht, ?_, fun _ _ => trivial, ?_⟩
    · rw [ht]
      simp [invoke, hcf.h]
    · refine callsD_mono (hc F w hs) ?_
      rintro e u' w' ⟨hne, L', hR, hs'⟩
      cases e with
      | returned v => exact ih _ _ E D0 F a w' hR hr hs'
      | panicked ch => exact ih _ _ E D0 F a w' hR hr hs'
      | outgrown => exact hR.elim
def bodyQD (P : Program) (N : Nat) (fn : Func) (R : Ending → List HP → Prop) : Post
  | .normal, E, D, L | .ret, E, D, L => LeavesQ P N fn R E D .returning L
  | .panic ch, E, D, L => LeavesQ P N fn R E D (.panicking ch) L
  | _, _, _, _ => False
theorem fn_bodyD {f : FuncId} {c : Code} {vs : List Value} {L : List HP} (hf : P.funcs[f]? = some fn) (hb : fn.body = some c) (hn : fn.ntmps = N) (hN : vs.length ≤ N)
    (h : J P N none c (argEnv 0 vs) [] L (bodyQD P N fn R)) : Ct P f vs.toArray L R := by
  intro F w hs
  refine (callsIn_wide (n := 0)).1 (callsIn_of_wp_defers hf hb trivial ?_ rfl)
  have h1 := h F _ w (rep_args vs hN) hs
  rw [hn]
  refine wpIn_mono h1 ?_
  rintro e a w' ⟨E, D, L', q, r, s⟩
  have hd := r.2.1
  cases e with
  | normal =>
    show LeavesIn (FW none) 0 P fn a.tmps _ a.defers _ w'
    rw [hd]
    exact leaves_q D _ L' E D F a w' q r s
  | ret =>
    show LeavesIn (FW none) 0 P fn a.tmps _ a.defers _ w'
    rw [hd]
    exact leaves_q D _ L' E D F a w' q r s
  | panic ch =>
    show LeavesIn (FW none) 0 P fn a.tmps _ a.defers _ w'
    rw [hd]
    exact leaves_q D _ L' E D F a w' q r s
  | exit id => exact q.elim
  | goto l => exact q.elim
  | outgrown => exact q.elim
end
/-! ### A function that recovers -/
abbrev PostS := Exit → Env → List Deferred → List HP → FrameMode → Prop
section
variable (P : Program) (N : Nat)
def JS (c : Code) (E : Env) (D : List Deferred) (L : List HP) (u : FrameMode) (Q : PostS) : Prop :=
  ∀ (F : HP) (a : Act) (w : World) (c0 : Frame) (cs : List Frame), c0.mode = u → Rep N E D a → Sat w (F :: L) →
    c.wpSIn (FW none) 0 P (fun e a' cs' w' => ∃ E' D' L' u', Q e E' D' L' u' ∧ cs' = { c0 with mode := u' } :: cs ∧ Rep N E' D' a' ∧ Sat w' (F :: L')) a (c0 :: cs) w
end
def recM : FrameMode → Value × FrameMode
  | .panicking ({ v, recovered := false, goexit := false } :: older) => (v, .panicking ({ v, recovered := true } :: older))
  | u => (.nilIface, u)
section
variable {P : Program} {N : Nat} {E : Env} {D : List Deferred} {L : List HP} {u : FrameMode} {Q : PostS}
theorem frame_mode (c : Frame) : ({ c with mode := c.mode } : Frame) = c := rfl
theorem JS_of_J {c : Code} (h : J P N none c E D L fun e E D L => Q e E D L u) : JS P N c E D L u Q := by
  intro F a w c0 cs hu hr hs
  refine wpSIn_of_wpIn rfl (wpIn_mono (h F a w hr hs) ?_)
  rintro e a' w' ⟨E', D', L', q, r, s⟩
  subst hu
  exact ⟨E', D', L', c0.mode, q, rfl, r, s⟩
def thnS (K : Env → List Deferred → List HP → FrameMode → Prop) (Q : PostS) : PostS
  | .normal, E, D, L, u => K E D L u
  | e, E, D, L, u => Q e E D L u
theorem JS_seq {x y : Code} (h : JS P N x E D L u (thnS (fun E D L u => JS P N y E D L u Q) Q)) : JS P N (.seq x y) E D L u Q := by
  intro F a w c0 cs hu hr hs
  refine wpSIn_seq ?_
  intro b k hb hro hF hroom
  obtain ⟨e, a', cs', w', hl, ⟨E', D', L', u', q, rfl, r, s⟩, harr⟩ := h F a w c0 cs hu hr hs b k hb hro hF hroom
  refine ⟨e, a', _, w', hl, ?_, harr⟩
  cases e with
  | normal => exact q F a' w' { c0 with mode := u' } cs rfl r s
  | exit id => exact ⟨E', D', L', u', q, rfl, r, s⟩
  | goto l => exact ⟨E', D', L', u', q, rfl, r, s⟩
  | ret => exact ⟨E', D', L', u', q, rfl, r, s⟩
  | panic ch => exact ⟨E', D', L', u', q, rfl, r, s⟩
  | outgrown => exact ⟨E', D', L', u', q, rfl, r, s⟩
theorem recoverD_mode (c0 : Frame) (cs : List Frame) : recoverD (c0 :: cs) = none ∧ recM c0.mode = (.nilIface, c0.mode) ∨ recoverD (c0 :: cs) = some ((recM c0.mode).1, { c0 with mode := (recM c0.mode).2 } :: cs) := by
  cases hm : c0.mode with
  | run => left; simp [recoverD, recM, hm]
  | returning => left; simp [recoverD, recM, hm]
  | panicking l =>
    cases l with
    | nil => left; simp [recoverD, recM, hm]
    | cons p older =>
      obtain ⟨v, rec, gx⟩ := p
      cases rec with
      | true => left; simp [recoverD, recM, hm]
      | false =>
        cases gx with
        | true => left; simp [recoverD, recM, hm]
        | false => right; simp [recoverD, recM, hm]
/-- 'x := recover()': a region of two operations. -/
theorem JS_recover {id d1 d2 : Nat} {ts : Array TypeId} {t1 t2 : TypeId} {p1 p2 : String} {af1 af2 : Array Edge} (h1 : Nat.blt d1 N = true) (h2 : Nat.blt d2 N = true)
    (h : Q .normal (put (put E (some d1) (recM u).1) (some d2) (recM u).1) D L (recM u).2) :
    JS P N (.region id #[⟨some d1, .call ⟨.builtin .recover, #[], ts⟩, t1, p1, af1, none⟩, ⟨some d2, .assign (.tmp d1), t2, p2, af2, none⟩] false) E D L u Q := by
  intro F a w c0 cs hu hr hs
  refine wpSIn_region ?_
  have e1 : (execOp a.eval ⟨some d1, .call ⟨.builtin .recover, #[], ts⟩, t1, p1, af1, none⟩).run P w = .ok .recover w := by simp [execOp, resolve, invoke, builtin]
  have r1 : Rep N (put E (some d1) (recM u).1) D (a.put (some d1) (recM u).1) := hr.put (d := some d1) h1 _
  have e2 : (execOp (a.put (some d1) (recM u).1).eval ⟨some d2, .assign (.tmp d1), t2, p2, af2, none⟩).run P w = .ok (.value (recM u).1) w := by
    have := r1.eval (x := .tmp d1) (v := (recM u).1) (by simp [ev, put, get_cons])
    simp [execOp, this]
  have r2 : Rep N (put (put E (some d1) (recM u).1) (some d2) (recM u).1) D ((a.put (some d1) (recM u).1).put (some d2) (recM u).1) := r1.put (d := some d2) h2 _
  have fin : ∀ cs', cs' = { c0 with mode := (recM u).2 } :: cs → wpOpsSIn (FW none) 0 P #[⟨some d1, .call ⟨.builtin .recover, #[], ts⟩, t1, p1, af1, none⟩, ⟨some d2, .assign (.tmp d1), t2, p2, af2, none⟩] (fun e a' cs' w' => ∃ E' D' L' u', Q e E' D' L' u' ∧ cs' = { c0 with mode := u' } :: cs ∧ Rep N E' D' a' ∧ Sat w' (F :: L')) [1] (a.put (some d1) (recM u).1) cs' w := by
    intro cs' hcs
    simp only [wpOpsSIn, List.getElem?_toArray, List.getElem?_cons_succ, List.getElem?_cons_zero, Region.wanted, if_true, e2]
    exact ⟨fun _ _ => trivial, _, _, _, _, h, hcs, r2, hs⟩
  show wpOpsSIn _ _ _ _ _ [0, 1] _ _ _
  rw [wpOpsSIn]
  simp only [List.getElem?_toArray, List.getElem?_cons_zero, Region.wanted, if_true, e1]
  refine ⟨fun _ _ => trivial, ?_⟩
  rcases recoverD_mode c0 cs with ⟨h3, h4⟩ | h3
  · rw [h3]
    have h5 : (recM u) = (.nilIface, u) := by rw [← hu]; exact h4
    simp only
    have := fin (c0 :: cs) (by rw [h5, ← hu])
    rw [h5] at this
    exact this
  · rw [h3]
    simp only
    rw [hu]
    exact fin _ rfl
def bodyQS (P : Program) (N : Nat) (fn : Func) (R : Ending → FrameMode → List HP → Prop) : PostS
  | .normal, E, D, L, u | .ret, E, D, L, u => D = [] ∧ ∃ v, Res P N fn E L v ∧ R (.returned v) u L
  | .panic ch, _, D, L, u => D = [] ∧ R (.panicked ch) u L
  | _, _, _, _, _ => False
theorem fn_bodyS {f : FuncId} {fn : Func} {c : Code} {vs : List Value} {R : Ending → FrameMode → List HP → Prop} (hf : P.funcs[f]? = some fn) (hb : fn.body = some c) (hn : fn.ntmps = N) (hN : vs.length ≤ N)
    (h : JS P N c (argEnv 0 vs) [] L u (bodyQS P N fn R)) : CtD P f vs.toArray u L R := by
  intro F w hs
  refine callsDIn_of_wpSIn hf hb trivial fun c0 cs hu => ?_
  have h1 := h F _ w c0 cs hu (rep_args vs hN) hs
  rw [hn]
  intro b k hb hro hF hroom
  obtain ⟨e, a', cs', w', hl, ⟨E', D', L', u', q, rfl, r, s⟩, harr⟩ := h1 b k hb hro hF hroom
  refine ⟨e, a', _, w', hl, ?_, harr⟩
  cases e with
  | normal => obtain ⟨hD, v, hv, hR⟩ := q; exact ⟨r.2.1.trans hD, u', rfl, v, hv F a' w' D' r s, by simp, L', hR, s⟩
  | ret => obtain ⟨hD, v, hv, hR⟩ := q; exact ⟨r.2.1.trans hD, u', rfl, v, hv F a' w' D' r s, by simp, L', hR, s⟩
  | panic ch => obtain ⟨hD, hR⟩ := q; exact ⟨r.2.1.trans hD, u', rfl, by simp, L', hR, s⟩
  | exit id => exact q.elim
  | goto l => exact q.elim
  | outgrown => exact q.elim
end
end Go.Sp
