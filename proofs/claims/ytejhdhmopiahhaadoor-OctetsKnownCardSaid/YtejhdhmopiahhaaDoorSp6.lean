/- Ranges over functions: rounds, what an iterator promises, the statement, and a function's end behind such a statement. -/
import Derived.Test.YtejhdhmopiahhaaDoorSp5
import Derived.RangeFuncNested
namespace Go.Sp
open Go.RowKit

/-- A call of yield of the loop l. -/
def Yc (P : Program) (l : Nat) (args : Array Value) (L : List HP) (R : Bool → List HP → Prop) : Prop :=
  ∀ (F : HP) (w : World), Sat w (F :: L) → ∃ fn tmps assign body, (Instr.yield l args).run P w = .ok (.round l fn tmps assign body) w ∧
    RoundIn Fence.wide 0 P l fn tmps assign body w fun e w' => ∃ b L', e = .returned (.bool b) ∧ R b L' ∧ Sat w' (F :: L')

theorem Yc.use {P : Program} {l : Nat} {args : Array Value} {K L M : List HP} {R : Bool → List HP → Prop} (h : Yc P l args K R) [hs : Sel K L M] : Yc P l args L fun b L'' => ∃ L', R b L' ∧ L'' = L' ++ M := by
  intro F w s
  have s1 : Sat w (Star (F :: M) :: K) := (Sat.fold (L1 := F :: M)).1 ((s.perm (hs.h.cons F)).perm (List.Perm.cons F List.perm_append_comm))
  obtain ⟨fn, tmps, assign, body, h1, h2⟩ := h _ w s1
  refine ⟨fn, tmps, assign, body, h1, h2.mono ?_⟩
  rintro e w' ⟨b, L', he, hr, s2⟩
  exact ⟨b, _, he, ⟨L', hr, rfl⟩, ((Sat.fold (L1 := F :: M)).2 s2).perm (List.Perm.cons F List.perm_append_comm)⟩

/-- What an iterator (function f, with what it holds) promises: it hands xs to yield, one by one, as long as yield says so. -/
def SeqC (P : Program) (f : FuncId) (fs cs : List Value) (K : List HP) (xs : List (List Value)) : Prop :=
  ∀ (l : Nat) (σ τ : Type) (I : Nat → σ → HP) (Ix : τ → HP),
    (∀ i x s, xs[i]? = some x → Yc P l x.toArray [I i s] fun b L' => (b = true ∧ ∃ s', L' = [I (i + 1) s']) ∨ (b = false ∧ ∃ s', L' = [Ix s'])) →
    ∀ s0, Ct P f (fs ++ [Value.func (.yield l) #[] #[]] ++ cs).toArray (I 0 s0 :: K) fun e L' => (∃ v, e = .returned v) ∧ ((∃ s, L' = [I xs.length s]) ∨ (∃ s, L' = [Ix s]))

/-- The frame of a round: yield's arguments in the loop's variables. -/
def penv : List Tmp → List Value → Env → Env
  | p :: ps, v :: vs, E => penv ps vs ((p, v) :: E)
  | _, _, E => E
theorem rep_penv {N : Nat} {D : List Deferred} : ∀ (ps : List Tmp) (vs : List Value) (E : Env) (tm : Array Value), (∀ p ∈ ps, p < N) → Rep N E D { tmps := tm, defers := D } →
    Rep N (penv ps vs E) D { tmps := (ps.zip vs).foldl (fun t (p, v) => t.setIfInBounds p v) tm, defers := D } := by
  intro ps
  induction ps with
  | nil => intro vs E tm _ h; cases vs <;> exact h
  | cons p ps ih =>
    intro vs E tm hp h
    cases vs with
    | nil => exact h
    | cons v vs =>
      simp only [penv, List.zip_cons_cons, List.foldl_cons]
      refine ih vs _ _ (fun q hq => hp q (by simp [hq])) ?_
      have := h.put (d := some p) (by simpa [dok] using hp p (by simp)) v
      exact this

def collected (r : Nat) : Deferred := { target := .collected r, args := #[] }

/-- How a round may end: it goes on; or it leaves by a jump. -/
def rndQ {σ τ : Type} (A : HP) (U : σ → List HP) (jc : τ → Code) (V : τ → List HP) : Post
  | .normal, _, _, L => ∃ s, Ent L (A :: U s)
  | .ret, _, _, L => ∃ s, jc s = .ret ∧ Ent L (A :: V s)
  | .exit id, _, _, L => ∃ s, jc s = .exit id ∧ Ent L (A :: V s)
  | .goto t, _, _, L => ∃ s, jc s = .goto t ∧ Ent L (A :: V s)
  | _, _, _, _ => False

section
variable {P : Program} {N : Nat} {rd : Option Nat} {E : Env} {D : List Deferred} {L : List HP} {Q : Post} {next : Env → List Deferred → List HP → Prop}
variable {d : Option Nat} {ty : TypeId} {pos : String} {after : Array Edge} {g : Option (Nat × Bool)}

/-- yield is called. -/
theorem JO_yield {l : Nat} {x : Operand} {args : Array Operand} {ts : Array TypeId} {vs : List Value} {R : Bool → List HP → Prop} (hf : ev E x = some (.func (.yield l) #[] #[])) (hx : evs E args.toList = some vs)
    (hy : Yc P l vs.toArray L R) (hd : dok N d = true) (h : ∀ b L', R b L' → next (put E d (.bool b)) D L') : JO P N rd ⟨d, .call ⟨.value x, args, ts⟩, ty, pos, after, g⟩ E D L next Q := by
  intro F a w hr hs nx hnx
  obtain ⟨fn, tmps, assign, body, h1, h2⟩ := hy F w hs
  have e : args.map a.eval = vs.toArray := by rw [← hr.evals hx]; apply Array.ext'; simp
  have hrun : (execOp a.eval ⟨d, .call ⟨.value x, args, ts⟩, ty, pos, after, g⟩).run P w = .ok (.round l fn tmps assign body) w := by
    simp [execOp, resolve, e, hr.eval hf, Deferred.ofValue, invoke, h1]
  refine ⟨fun _ _ => trivial, ?_⟩
  rw [Oper.semAt_eq _ _ _ (fun c => by simp), hrun]
  refine ⟨fun h => by simp [FW, Fence.wide] at h, ?_⟩
  have h3 : RoundIn (FW rd) 0 P l fn tmps assign body w fun e w' => ∃ b L', e = .returned (.bool b) ∧ R b L' ∧ Sat w' (F :: L') := h2
  refine h3.mono ?_
  rintro e' w' ⟨b, L', rfl, hR, hs'⟩
  exact hnx _ _ _ _ _ (h b L' hR) (hr.put hd _) hs'

/-- yield is called by an iterator: it goes on, or no more. -/
theorem JO_yieldI {l : Nat} {x : Operand} {args : Array Operand} {ts : Array TypeId} {vs : List Value} {σ τ : Type} {A : HP} {B : σ → HP} {C : τ → HP} {M : List HP}
    (hy : Yc P l vs.toArray [A] fun b L' => (b = true ∧ ∃ s', L' = [B s']) ∨ (b = false ∧ ∃ s', L' = [C s'])) [Sel [A] L M] (hf : ev E x = some (.func (.yield l) #[] #[])) (hx : evs E args.toList = some vs) (hd : dok N d = true)
    (h1 : ∀ s', next (put E d (.bool true)) D (B s' :: M)) (h2 : ∀ s', next (put E d (.bool false)) D (C s' :: M)) : JO P N rd ⟨d, .call ⟨.value x, args, ts⟩, ty, pos, after, g⟩ E D L next Q :=
  JO_yield hf hx hy.use hd (by
    rintro b L' ⟨_, ⟨rfl, s', rfl⟩ | ⟨rfl, s', rfl⟩, rfl⟩
    · exact h1 s'
    · exact h2 s')
theorem seq_end {fn : Func} {A : HP} {σ τ : Type} {B : σ → HP} {C : τ → HP} (hr : fn.results = #[]) (e : Exit) (he : e = .ret ∨ e = .normal) (hA : Ent L [A]) (h : (∃ s, A = B s) ∨ (∃ s, A = C s)) :
    bodyQ P N fn (fun e L => ∃ L', Ent L L' ∧ (∃ v, e = .returned v) ∧ ((∃ s, L' = [B s]) ∨ (∃ s, L' = [C s]))) e E [] L := by
  have h2 : (∃ s, [A] = [B s]) ∨ (∃ s, [A] = [C s]) := by
    rcases h with ⟨s, rfl⟩ | ⟨s, rfl⟩
    · exact .inl ⟨s, rfl⟩
    · exact .inr ⟨s, rfl⟩
  rcases he with rfl | rfl
  · exact ⟨rfl, _, res_none hr, _, hA, ⟨_, rfl⟩, h2⟩
  · exact ⟨rfl, _, res_none hr, _, hA, ⟨_, rfl⟩, h2⟩

/-- One round. -/
theorem round_yc {l : Nat} {rec : Loop} {σ τ : Type} {Us U' : List HP} {U : σ → List HP} {jc : τ → Code} {V : τ → List HP} {G : List HP} {x : List Value} (hE : Rep N E [] { tmps := rec.tmps, defers := [] }) (hst : rec.state = .ready)
    (hps : x.length = rec.params.size) (hlt : ∀ p ∈ rec.params, p < N)
    (hbody : J P N (some l) rec.assign (penv rec.params.toList x E) [] Us (thn (fun E' D' L' => J P N (some l) rec.body E' D' (pt l (.loop { rec with state := .busy }) :: L') (rndQ (pt l (.loop { rec with state := .busy })) U jc V)) (fun _ _ _ _ => False))) :
    Yc P l x.toArray [Star (pt l (.loop rec) :: (G ++ Us))] fun b L' => (b = true ∧ ∃ s, L' = [Star (pt l (.loop { rec with state := .ready, pending := none }) :: (G ++ U s))]) ∨ (b = false ∧ ∃ s, L' = [Star (pt l (.loop { rec with state := .done, pending := some (jc s) }) :: (G ++ V s))]) := by
  intro F w hs
  have hs1 : Sat w (pt l (.loop rec) :: (G ++ Us) ++ [F]) := Sat.fold.2 hs.swap
  have hl := hs1.pt_heap
  have hy := run_yield (P := P) (args := x.toArray) hl (by simpa using hps)
  refine ⟨_, _, _, _, hy, roundIn_of_wpIn trivial ?_⟩
  have hrep : Rep N (penv rec.params.toList x E) [] { tmps := (rec.params.zip x.toArray).foldl (fun t (p, v) => t.setIfInBounds p v) rec.tmps, defers := [] } := by
    have := rep_penv rec.params.toList x E rec.tmps (fun p hp => hlt p (by simpa using hp)) hE
    rw [← Array.foldl_toList, Array.toList_zip]
    exact this
  have hs2 : Sat w (Star (F :: pt l (.loop rec) :: G) :: Us) := (Sat.fold (L1 := F :: pt l (.loop rec) :: G)).1 (hs1.perm (by
    simp only [List.cons_append]
    exact (List.perm_append_comm (l₁ := pt l (.loop rec) :: (G ++ Us)) (l₂ := [F]))))
  refine wpIn_mono (hbody _ _ w hrep hs2) ?_
  rintro e a1 w1 ⟨E', D', L', q, r, s⟩
  cases e with
  | normal =>
    have s3 : Sat w1 (pt l (.loop rec) :: (F :: (G ++ L'))) := ((Sat.fold (L1 := F :: pt l (.loop rec) :: G)).2 s).perm (List.Perm.swap _ _ _)
    have hl1 := s3.pt_heap
    refine ⟨_, run_beginRound hl1 hst, ?_⟩
    have s4 : Sat (w1.putObj l (.loop { rec with state := .busy })) (pt l (.loop { rec with state := .busy }) :: (F :: (G ++ L'))) := s3.set_pt _
    have s5 : Sat (w1.putObj l (.loop { rec with state := .busy })) (Star (F :: G) :: (pt l (.loop { rec with state := .busy }) :: L')) := (Sat.fold (L1 := F :: G)).1 (s4.perm (by
      simp only [List.cons_append]
      refine (List.Perm.swap _ _ _).trans (List.Perm.cons F ?_)
      exact List.perm_middle.symm))
    refine wpIn_mono (q _ a1 _ r s5) ?_
    have fin : ∀ (w3 : World) (jump : Option Code) (L3 W3 : List HP), Sat w3 (Star (F :: G) :: L3) → Ent L3 (pt l (.loop { rec with state := .busy }) :: W3) →
        (Instr.endRound l jump).run P w3 = .ok (.bool jump.isNone) (w3.putObj l (.loop { rec with state := if jump.isNone then .ready else .done, pending := jump })) ∧
        Sat (w3.putObj l (.loop { rec with state := if jump.isNone then .ready else .done, pending := jump })) [F, Star (pt l (.loop { rec with state := if jump.isNone then .ready else .done, pending := jump }) :: (G ++ W3))] := by
      intro w3 jump L3 W3 h3 he
      have h4 : Sat w3 (pt l (.loop { rec with state := .busy }) :: (F :: (G ++ W3))) := ((Sat.fold (L1 := F :: G)).2 (he _ _ h3)).perm (by
        simp only [List.cons_append]
        refine (List.Perm.cons F List.perm_middle).trans (List.Perm.swap _ _ _))
      have h5 := run_endRound (P := P) jump h4.pt_heap
      have h6 := h4.set_pt (.loop { rec with state := if jump.isNone then .ready else .done, pending := jump })
      refine ⟨h5, ?_⟩
      have h7 : Sat (w3.putObj l (.loop { rec with state := if jump.isNone then .ready else .done, pending := jump })) ((pt l (.loop { rec with state := if jump.isNone then .ready else .done, pending := jump }) :: (G ++ W3)) ++ [F]) := h6.perm (by
        refine List.Perm.cons _ ?_
        exact (List.perm_append_comm (l₁ := [F]) (l₂ := G ++ W3)))
      exact ((Sat.fold).1 h7).swap
    rintro e a3 w3 ⟨E3, D3, L3, q3, r3, s6⟩
    cases e with
    | normal =>
      obtain ⟨s', he⟩ := q3
      obtain ⟨h1, h2⟩ := fin w3 none L3 _ s6 he
      exact ⟨_, _, h1, true, _, rfl, .inl ⟨rfl, s', rfl⟩, h2⟩
    | ret =>
      obtain ⟨s', hj, he⟩ := q3
      obtain ⟨h1, h2⟩ := fin w3 (some .ret) L3 _ s6 he
      exact ⟨_, _, h1, false, _, rfl, .inr ⟨rfl, s', by rw [hj]; rfl⟩, h2⟩
    | exit id =>
      obtain ⟨s', hj, he⟩ := q3
      obtain ⟨h1, h2⟩ := fin w3 (some (.exit id)) L3 _ s6 he
      exact ⟨_, _, h1, false, _, rfl, .inr ⟨rfl, s', by rw [hj]; rfl⟩, h2⟩
    | goto t =>
      obtain ⟨s', hj, he⟩ := q3
      obtain ⟨h1, h2⟩ := fin w3 (some (.goto t)) L3 _ s6 he
      exact ⟨_, _, h1, false, _, rfl, .inr ⟨rfl, s', by rw [hj]; rfl⟩, h2⟩
    | panic ch => exact q3.elim
    | outgrown => exact q3.elim
  | exit id => exact q.elim
  | goto t => exact q.elim
  | ret => exact q.elim
  | panic ch => exact q.elim
  | outgrown => exact q.elim

/-- **for .. := range f**, in a function's own frame. -/
theorem J_range {σ τ : Type} {gq : Operand} {ps : Array Tmp} {assign body : Code} {f : FuncId} [hf : CF P f] {fs cs : List Value} {K : List HP} {xs : List (List Value)} (U : Nat → σ → List HP) (jc : τ → Code) (V : τ → List HP)
    (hg : ev E gq = some (.func (.func f) fs.toArray cs.toArray)) (hseq : SeqC P f fs cs K xs) (hps : ∀ x ∈ xs, x.length = ps.size) (hlt : ∀ p ∈ ps, p < N) (s0 : σ) (hL : Ent L (U 0 s0 ++ K))
    (hbody : ∀ (l : Nat) (rec : Loop) (i : Nat) (x : List Value) (s : σ), xs[i]? = some x →
      J P N (some l) assign (penv ps.toList x E) [] (U i s) (thn (fun E' D' L' => J P N (some l) body E' D' (pt l (.loop rec) :: L') (rndQ (pt l (.loop rec)) (U (i + 1)) jc V)) (fun _ _ _ _ => False)))
    (hdone : ∀ r s, Q .normal E (collected r :: D) (pt r (.deferred (some [])) :: U xs.length s))
    (hstop : ∀ r s, J P N none (jc s) E (collected r :: D) (pt r (.deferred (some [])) :: V s) Q) : J P N none (.rangeFunc gq ps assign body) E D L Q := by
  intro F a w hr hs
  refine wpIn_rangeFunc ?_
  intro fn _
  obtain ⟨rec, hrec⟩ : ∃ rec : Loop, rec = { state := .ready, pending := none, fn, tmps := a.tmps, params := ps, assign, body, defers := w.heap.size } := ⟨_, rfl⟩
  have hs1 := ((hL F w hs).new (.deferred (some []))).new (.loop rec)
  have hsz : ({ w with heap := w.heap.push (.deferred (some [])) } : World).heap.size = w.heap.size + 1 := by simp
  rw [hsz] at hs1
  have hargs : (resolve a.eval (rangeCall gq (w.heap.size + 1)) 0).run P ((w.alloc (.deferred (some []))).alloc (.loop rec)) = .ok { target := .fn (.func f) cs.toArray, args := (fs ++ [Value.func (.yield (w.heap.size + 1)) #[] #[]]).toArray } ((w.alloc (.deferred (some []))).alloc (.loop rec)) := by
    have hev := hr.eval hg
    have hy : a.eval (.const (.func (.yield (w.heap.size + 1)) #[] #[])) = .func (.yield (w.heap.size + 1)) #[] #[] := rfl
    simp [resolve, rangeCall, hev, hy, Deferred.ofValue]
  refine ⟨w.heap.size + 1, [collected w.heap.size], (w.alloc (.deferred (some []))).alloc (.loop rec), { target := .fn (.func f) cs.toArray, args := (fs ++ [Value.func (.yield (w.heap.size + 1)) #[] #[]]).toArray }, (w.alloc (.deferred (some []))).alloc (.loop rec), f,
    (fs ++ [Value.func (.yield (w.heap.size + 1)) #[] #[]] ++ cs).toArray, (w.alloc (.deferred (some []))).alloc (.loop rec), ?_, hargs, fun _ _ => trivial, ?_, fun h => by simp [FW, Fence.wide] at h, ?_⟩
  · rw [hrec]; exact run_enterLoop_outer _ _ _ _ _
  · simp [invoke, hf.h]
  · have hround := hseq (w.heap.size + 1) σ τ (fun i s => Star (pt (w.heap.size + 1) (.loop rec) :: ([pt w.heap.size (.deferred (some []))] ++ U i s)))
      (fun s => Star (pt (w.heap.size + 1) (.loop { rec with state := .done, pending := some (jc s) }) :: ([pt w.heap.size (.deferred (some []))] ++ V s))) (fun i x s hx => by
        have h1 := round_yc (P := P) (N := N) (E := E) (l := w.heap.size + 1) (rec := rec) (Us := U i s) (U' := []) (U := U (i + 1)) (jc := jc) (V := V) (G := [pt w.heap.size (.deferred (some []))]) (x := x)
          ⟨by rw [hrec]; exact hr.1, rfl, by rw [hrec]; exact hr.2.2⟩ (by rw [hrec]) (by rw [hrec]; exact hps x (List.mem_of_getElem? hx)) (by rw [hrec]; exact hlt) (by
            have := hbody (w.heap.size + 1) { rec with state := .busy } i x s hx
            rw [hrec] at this ⊢
            exact this)
        have e1 : ({ rec with state := .ready, pending := none } : Loop) = rec := by rw [hrec]
        rw [e1] at h1
        exact h1) s0
    have hs2 : Sat ((w.alloc (.deferred (some []))).alloc (.loop rec)) (F :: Star (pt (w.heap.size + 1) (.loop rec) :: ([pt w.heap.size (.deferred (some []))] ++ U 0 s0)) :: K) := by
      have h3 : Sat ((w.alloc (.deferred (some []))).alloc (.loop rec)) ((pt (w.heap.size + 1) (.loop rec) :: ([pt w.heap.size (.deferred (some []))] ++ U 0 s0)) ++ (F :: K)) := hs1.perm (by
        refine List.Perm.cons _ ?_
        simp only [List.cons_append, List.nil_append]
        refine List.Perm.cons _ ?_
        exact List.perm_middle.symm)
      exact ((Sat.fold).1 h3).swap
    refine fw_wide none ((hround F _ hs2).mono ?_)
    rintro e w3 ⟨hne, L', ⟨⟨v, rfl⟩, ⟨s, rfl⟩ | ⟨s, rfl⟩⟩, hs3⟩
    · have h4 : Sat w3 (pt (w.heap.size + 1) (.loop rec) :: (F :: (pt w.heap.size (.deferred (some [])) :: U xs.length s))) := ((Sat.fold).2 hs3.swap).perm (by
        simp only [List.cons_append, List.nil_append]
        refine List.Perm.cons _ ?_
        exact (List.perm_append_comm (l₁ := pt w.heap.size (.deferred (some [])) :: U xs.length s) (l₂ := [F])))
      refine ⟨none, _, by have := run_endLoop (P := P) h4.pt_heap (by rw [hrec]; simp); rw [this, hrec], ?_⟩
      exact ⟨E, _, _, hdone _ s, ⟨hr.1, by rw [hr.2.1]; rfl, hr.2.2⟩, (h4.set_pt _).tail⟩
    · have h4 : Sat w3 (pt (w.heap.size + 1) (.loop { rec with state := .done, pending := some (jc s) }) :: (F :: (pt w.heap.size (.deferred (some [])) :: V s))) := ((Sat.fold).2 hs3.swap).perm (by
        simp only [List.cons_append, List.nil_append]
        refine List.Perm.cons _ ?_
        exact (List.perm_append_comm (l₁ := pt w.heap.size (.deferred (some [])) :: V s) (l₂ := [F])))
      refine ⟨some (jc s), _, by have := run_endLoop (P := P) h4.pt_heap (by simp); rw [this], ?_⟩
      exact hstop _ s F _ _ ⟨hr.1, by rw [hr.2.1]; rfl, hr.2.2⟩ (h4.set_pt _).tail

/-! ### A function's end behind such statements -/
def MarksQ : List Deferred → List HP → (List HP → Prop) → Prop
  | [], L, K => K L
  | d :: D, L, K => ∃ r M, d.target = .collected r ∧ L.Perm (pt r (.deferred (some [])) :: M) ∧ MarksQ D M K
def bodyQM (P : Program) (N : Nat) (fn : Func) (R : Ending → List HP → Prop) : Post
  | .normal, E, D, L | .ret, E, D, L => MarksQ D L fun L0 => ∃ v, Res P N fn E L0 v ∧ ∃ L', Ent L0 L' ∧ R (.returned v) L'
  | _, _, _, _ => False
theorem leaves_marks {fn : Func} {R : Ending → List HP → Prop} {F : HP} : ∀ (D : List Deferred) (L : List HP) (a : Act) (w : World) (E : Env), Rep N E a.defers a → Sat w (F :: L) →
    MarksQ D L (fun L0 => ∃ v, Res P N fn E L0 v ∧ ∃ L', Ent L0 L' ∧ R (.returned v) L') →
    LeavesInM Fence.wide 0 P fn a.tmps (fun e w' => e ≠ .outgrown ∧ ∃ L', R e L' ∧ Sat w' (F :: L')) D .returning w := by
  intro D
  induction D with
  | nil =>
    intro L a w E hr hs ⟨v, hv, L', he, hR⟩
    exact ⟨v, hv F a w _ hr hs, by simp, L', hR, he F w hs⟩
  | cons d D ih =>
    intro L a w E hr hs ⟨r, M, ht, hp, hq⟩
    have hs1 : Sat w (pt r (.deferred (some [])) :: F :: M) := (hs.perm (hp.cons F)).swap
    refine ⟨by simp, .inl ⟨r, _, ht, run_takeDeferred hs1.pt_heap, ?_⟩⟩
    exact ih M a _ E hr (hs1.set_pt _).tail hq
theorem retM_one {α : Type} {φ : α → Prop} {v : α → Value} {L0 : α → List HP} {r : Nat} {M : List HP} [h : Tk (pt r (.deferred (some []))) L M] {fn : Func} {t : Nat} {u : Value} (hr : fn.results = #[.tmp t]) (hv : Env.get E t = some u) (x : α) (hφ : φ x) (hu : u = v x) (he : Ent M (L0 x)) :
    bodyQM P N fn (RetE φ v L0) .ret E [collected r] L := ⟨r, M, rfl, h.h, _, res_one hr hv, _, he, x, hφ, by rw [hu], rfl⟩
theorem retM_none {α : Type} {φ : α → Prop} {L0 : α → List HP} {r : Nat} {M : List HP} [h : Tk (pt r (.deferred (some []))) L M] {fn : Func} (hr : fn.results = #[]) (x : α) (hφ : φ x) (he : Ent M (L0 x)) :
    bodyQM P N fn (RetE φ (fun _ => .tuple #[]) L0) .ret E [collected r] L := ⟨r, M, rfl, h.h, _, res_none hr, _, he, x, hφ, rfl, rfl⟩
theorem endM_none {α : Type} {φ : α → Prop} {L0 : α → List HP} {r : Nat} {M : List HP} [h : Tk (pt r (.deferred (some []))) L M] {fn : Func} (hr : fn.results = #[]) (x : α) (hφ : φ x) (he : Ent M (L0 x)) :
    bodyQM P N fn (RetE φ (fun _ => .tuple #[]) L0) .normal E [collected r] L := ⟨r, M, rfl, h.h, _, res_none hr, _, he, x, hφ, rfl, rfl⟩
/-- A function's contract from its body, where that ranges over functions. -/
theorem fn_retM {f : FuncId} {fn : Func} {c : Code} {vs : List Value} {R : Ending → List HP → Prop} (hf : P.funcs[f]? = some fn) (hb : fn.body = some c) (hn : fn.ntmps = N) (hN : vs.length ≤ N)
    (h : J P N none c (argEnv 0 vs) [] L (bodyQM P N fn R)) : Ct P f vs.toArray L R := by
  intro F w hs
  refine (callsIn_wide (n := 0)).1 (callsIn_of_wp_marks hf hb trivial ?_ rfl)
  have h1 := h F _ w (rep_args vs hN) hs
  rw [hn]
  refine wpIn_mono h1 ?_
  rintro e a w' ⟨E, D, L', q, r, s⟩
  cases e with
  | normal => rw [← r.2.1] at q; exact leaves_marks _ L' a w' E ⟨r.1, rfl, r.2.2⟩ s q
  | ret => rw [← r.2.1] at q; exact leaves_marks _ L' a w' E ⟨r.1, rfl, r.2.2⟩ s q
  | panic ch => exact q.elim
  | exit id => exact q.elim
  | goto l => exact q.elim
  | outgrown => exact q.elim
end
end Go.Sp
