/- Judgements on code, over lists of assertions: what of a frame is known is a list of slots and values. The rules of control flow; calls; a function's contract from its body. -/
import Derived.Test.YtejhdhmopiahhaaDoorSp0
namespace Go.Sp

abbrev Env := List (Nat × Value)
def Env.get : Env → Nat → Option Value
  | [], _ => none
  | (k, v) :: E, t => match Nat.beq k t with | true => some v | false => Env.get E t
def ev (E : Env) : Operand → Option Value
  | .tmp t => Env.get E t
  | .const v => some v
  | .global g => some (.pointer (some ⟨g, 0, none⟩))
  | .func f => some (.func (.func f) #[] #[])
def evs (E : Env) : List Operand → Option (List Value)
  | [] => some []
  | x :: l => match ev E x, evs E l with | some v, some vs => some (v :: vs) | _, _ => none
def put (E : Env) (d : Option Nat) (v : Value) : Env := match d with | some k => (k, v) :: E | none => E
def dok (N : Nat) (d : Option Nat) : Bool := match d with | some k => Nat.blt k N | none => true

def Rep (N : Nat) (E : Env) (D : List Deferred) (a : Act) : Prop := a.tmps.size = N ∧ a.defers = D ∧ ∀ t v, Env.get E t = some v → a.tmps[t]? = some v

theorem beq_false {k t : Nat} (h : ¬ k = t) : Nat.beq k t = false := by
  cases hb : Nat.beq k t with
  | false => rfl
  | true => exact absurd (Nat.eq_of_beq_eq_true hb) h
theorem get_cons (k : Nat) (v : Value) (E : Env) (t : Nat) : Env.get ((k, v) :: E) t = if k = t then some v else Env.get E t := by
  simp only [Env.get]
  by_cases h : k = t
  · subst h; simp
  · have : Nat.beq k t = false := beq_false h
    simp [this, h]

theorem Rep.eval {N : Nat} {E : Env} {D : List Deferred} {a : Act} {x : Operand} {v : Value} (h : Rep N E D a) (hx : ev E x = some v) : a.eval x = v := by
  cases x with
  | tmp t => have := h.2.2 t v hx; simp [Act.eval, this]
  | const u => simpa [ev, Act.eval] using hx
  | global g => simpa [ev, Act.eval] using hx
  | func f => simpa [ev, Act.eval] using hx

theorem Rep.evals {N : Nat} {E : Env} {D : List Deferred} {a : Act} (h : Rep N E D a) : ∀ {l : List Operand} {vs : List Value}, evs E l = some vs → l.map a.eval = vs := by
  intro l
  induction l with
  | nil => intro vs e; simp [evs] at e; simp [e]
  | cons x l ih =>
    intro vs e
    simp only [evs] at e
    split at e
    · rename_i v us h1 h2
      cases e
      simp [h.eval h1, ih h2]
    · cases e

theorem Rep.put {N : Nat} {E : Env} {D : List Deferred} {a : Act} {d : Option Nat} (h : Rep N E D a) (hd : dok N d = true) (v : Value) : Rep N (Sp.put E d v) D (a.put d v) := by
  cases d with
  | none => exact h
  | some k =>
    have hk : k < N := by simpa [dok] using hd
    refine ⟨by simp [Act.put, h.1], by simp [Act.put, h.2.1], fun t u e => ?_⟩
    simp only [Sp.put, get_cons] at e
    by_cases ht : k = t
    · subst ht
      simp at e
      subst e
      simp [Act.put, h.1, hk]
    · simp only [ht, if_false] at e
      simp [Act.put, Array.getElem?_setIfInBounds, ht, h.2.2 t u e]

/-- All that E' says, E says. -/
def Sub (E' E : Env) : Prop := ∀ t v, Env.get E' t = some v → Env.get E t = some v
theorem Rep.sub {N : Nat} {E E' : Env} {D : List Deferred} {a : Act} (h : Rep N E D a) (hs : Sub E' E) : Rep N E' D a := ⟨h.1, h.2.1, fun t v e => h.2.2 t v (hs t v e)⟩
theorem Sub.refl (E : Env) : Sub E E := fun _ _ e => e
theorem sub_nil (E : Env) : Sub [] E := fun _ _ e => by simp [Env.get] at e
theorem sub_cons {k : Nat} {v : Value} {E' E : Env} (h : Env.get E k = some v) (hs : Sub E' E) : Sub ((k, v) :: E') E := fun t u e => by
  rw [get_cons] at e
  by_cases hk : k = t
  · subst hk; simp at e; subst e; exact h
  · simp only [hk, if_false] at e; exact hs t u e

def FW (rd : Option Nat) : Fence := { Fence.wide with round := rd }

abbrev Post := Exit → Env → List Deferred → List HP → Prop

def lift (N : Nat) (F : HP) (Q : Post) : Exit → Act → World → Prop := fun e a w => ∃ E D L, Q e E D L ∧ Rep N E D a ∧ Sat w (F :: L)

section
variable (P : Program) (N : Nat) (rd : Option Nat)

/-- Code, from a frame of which E is known, with the deferred calls D, and a world that holds L: it is left so that Q. -/
def J (c : Code) (E : Env) (D : List Deferred) (L : List HP) (Q : Post) : Prop :=
  ∀ (F : HP) (a : Act) (w : World), Rep N E D a → Sat w (F :: L) → c.wpIn (FW rd) 0 P (lift N F Q) a w

/-- A region's operations from the i-th one on (which are rest). -/
def JL (all : Array Oper) (i : Nat) (rest : List Oper) (E : Env) (D : List Deferred) (L : List HP) (Q : Post) : Prop :=
  ∀ (F : HP) (a : Act) (w : World), Rep N E D a → Sat w (F :: L) → all.toList.drop i = rest → wpOpsIn (FW rd) 0 P all (lift N F Q) (List.range' i rest.length) a w

/-- One operation. -/
def JO (o : Oper) (E : Env) (D : List Deferred) (L : List HP) (next : Env → List Deferred → List HP → Prop) (Q : Post) : Prop :=
  ∀ (F : HP) (a : Act) (w : World), Rep N E D a → Sat w (F :: L) → ∀ nx : Act → World → Prop, (∀ E' D' L' a' w', next E' D' L' → Rep N E' D' a' → Sat w' (F :: L') → nx a' w') →
    o.wpIn (FW rd) 0 P a w nx (lift N F Q)

/-- A function's contract. -/
def Ct (f : FuncId) (args : Array Value) (L : List HP) (R : Ending → List HP → Prop) : Prop :=
  ∀ (F : HP) (w : World), Sat w (F :: L) → Calls P f args w fun e w' => e ≠ .outgrown ∧ ∃ L', R e L' ∧ Sat w' (F :: L')
end

section
variable {P : Program} {N : Nat} {rd : Option Nat} {E : Env} {D : List Deferred} {L : List HP} {Q : Post}

def thn (K : Env → List Deferred → List HP → Prop) (Q : Post) : Post
  | .normal, E, D, L => K E D L
  | e, E, D, L => Q e E D L
def inB (id : Nat) (Q : Post) : Post
  | .exit k, E, D, L => match Nat.beq k id with | true => Q .normal E D L | false => Q (.exit k) E D L
  | e, E, D, L => Q e E D L

theorem J_mono {c : Code} {Q' : Post} (h : J P N rd c E D L Q) (hq : ∀ e E D L, Q e E D L → Q' e E D L) : J P N rd c E D L Q' :=
  fun F a w hr hs => wpIn_mono (h F a w hr hs) fun _ _ _ ⟨E, D, L, q, r, s⟩ => ⟨E, D, L, hq _ _ _ _ q, r, s⟩

theorem J_skip (h : Q .normal E D L) : J P N rd .skip E D L Q := fun _ _ _ hr hs => wpIn_skip ⟨E, D, L, h, hr, hs⟩
theorem J_label {l : Nat} (h : Q .normal E D L) : J P N rd (.label l) E D L Q := fun _ _ _ hr hs => wpIn_label ⟨E, D, L, h, hr, hs⟩
theorem J_exit {id : Nat} (h : Q (.exit id) E D L) : J P N rd (.exit id) E D L Q := fun _ _ _ hr hs => wpIn_exit ⟨E, D, L, h, hr, hs⟩
theorem J_goto {id : Nat} (h : Q (.goto id) E D L) : J P N rd (.goto id) E D L Q := fun _ _ _ hr hs => wpIn_goto ⟨E, D, L, h, hr, hs⟩
theorem J_ret (h : Q .ret E D L) : J P N rd .ret E D L Q := fun _ _ _ hr hs => wpIn_ret ⟨E, D, L, h, hr, hs⟩

theorem J_seq {x y : Code} (h : J P N rd x E D L (thn (fun E D L => J P N rd y E D L Q) Q)) : J P N rd (.seq x y) E D L Q := by
  intro F a w hr hs
  refine wpIn_seq (wpIn_mono (h F a w hr hs) ?_)
  rintro e a w ⟨E, D, L, q, r, s⟩
  cases e with
  | normal => exact q F a w r s
  | exit id => exact ⟨E, D, L, q, r, s⟩
  | goto l => exact ⟨E, D, L, q, r, s⟩
  | ret => exact ⟨E, D, L, q, r, s⟩
  | panic ch => exact ⟨E, D, L, q, r, s⟩
  | outgrown => exact ⟨E, D, L, q, r, s⟩

theorem J_cond {c : Operand} {x y : Code} {b : Bool} (hc : ev E c = some (.bool b)) (ht : b = true → J P N rd x E D L Q) (hf : b = false → J P N rd y E D L Q) :
    J P N rd (.cond c x y) E D L Q := fun F a w hr hs => wpIn_cond_split (hr.eval hc) (fun h => ht h F a w hr hs) (fun h => hf h F a w hr hs)
theorem J_condP {c : Operand} {x y : Code} {p : Prop} {_ : Decidable p} (hc : ev E c = some (.bool (decide p))) (ht : p → J P N rd x E D L Q) (hf : ¬ p → J P N rd y E D L Q) :
    J P N rd (.cond c x y) E D L Q := J_cond hc (fun h => ht (of_decide_eq_true h)) (fun h => hf (of_decide_eq_false h))
theorem J_condT {c : Operand} {x y : Code} (hc : ev E c = some (.bool true)) (ht : J P N rd x E D L Q) : J P N rd (.cond c x y) E D L Q := J_cond hc (fun _ => ht) (fun h => by cases h)
theorem J_condF {c : Operand} {x y : Code} (hc : ev E c = some (.bool false)) (ht : J P N rd y E D L Q) : J P N rd (.cond c x y) E D L Q := J_cond hc (fun h => by cases h) (fun _ => ht)

theorem J_block {id : Nat} {c : Code} (h : J P N rd c E D L (inB id Q)) : J P N rd (.block id c) E D L Q := by
  intro F a w hr hs
  refine wpIn_block (wpIn_mono (h F a w hr hs) ?_)
  rintro e a w ⟨E, D, L, q, r, s⟩
  cases e with
  | exit k =>
    simp only [inB] at q
    simp only [Exit.inBlock]
    by_cases hk : k = id
    · subst hk; simp at q; simpa using ⟨E, D, L, q, r, s⟩
    · have : Nat.beq k id = false := beq_false hk
      rw [this] at q
      simpa [hk] using ⟨E, D, L, q, r, s⟩
  | normal => exact ⟨E, D, L, q, r, s⟩
  | goto l => exact ⟨E, D, L, q, r, s⟩
  | ret => exact ⟨E, D, L, q, r, s⟩
  | panic ch => exact ⟨E, D, L, q, r, s⟩
  | outgrown => exact ⟨E, D, L, q, r, s⟩

/-- A loop: states, each with what is known of the frame and of the world; a measure of the states that each round lowers. -/
theorem J_loop {β : Type} {c : Code} (IE : β → Env) (ID : β → List Deferred) (IL : β → List HP) (μ : β → Nat) (x0 : β) (hE : Sub (IE x0) E) (hD : ID x0 = D)
    (hL : ∀ (F : HP) (w : World), Sat w (F :: L) → Sat w (F :: IL x0))
    (round : ∀ x, J P N rd c (IE x) (ID x) (IL x) (thn (fun E' D' L' => ∃ y, μ y < μ x ∧ Sub (IE y) E' ∧ ID y = D' ∧ ∀ (F : HP) (w : World), Sat w (F :: L') → Sat w (F :: IL y)) Q)) :
    J P N rd (.loop c) E D L Q := by
  intro F a w hr hs
  have key : ∀ (n : Nat) (x : β) (a : Act) (w : World), μ x = n → Rep N (IE x) (ID x) a → Sat w (F :: IL x) →
      ∀ (b : Frame) (k : List Item) (cs : List Frame), b.roundOf = (FW rd).round → (FW rd).fn b.fn → (FW rd).room (cs.length + 1 + 0) →
      ∃ e a' w', lift N F Q e a' w' ∧ ArrivesIn (Machine.fenced P (FW rd)) P (lone (b.atR a (.code c :: .inLoop c :: k)) cs w) b k cs e a' w' := by
    intro n
    induction n using Nat.strongRecOn with
    | _ n ih =>
      intro x a w hn hr hs b k cs hro hb hroom
      obtain ⟨e, a₁, w₁, ⟨E', D', L', q, r, s⟩, harr⟩ := round x F a w hr hs b (.inLoop c :: k) cs hro hb hroom
      cases e with
      | normal =>
        obtain ⟨y, hlt, hsub, rfl, hL'⟩ := q
        obtain ⟨e₂, a₂, w₂, hq₂, harr₂⟩ := ih (μ y) (hn ▸ hlt) y a₁ w₁ rfl (r.sub hsub) (hL' F w₁ s) b k cs hro hb hroom
        exact ⟨e₂, a₂, w₂, hq₂, .of_steps (StepsIn.trans harr (.one (fenced_calm hb hroom rfl) stepR_inLoop)) harr₂⟩
      | exit id => exact ⟨_, a₁, w₁, ⟨E', D', L', q, r, s⟩, .pass (x := .inLoop c) rfl (fun _ _ => .inl (by simp)) harr⟩
      | goto l => exact ⟨_, a₁, w₁, ⟨E', D', L', q, r, s⟩, .pass (x := .inLoop c) rfl (fun _ _ => .inl (by simp)) harr⟩
      | ret => exact ⟨_, a₁, w₁, ⟨E', D', L', q, r, s⟩, .pass (x := .inLoop c) rfl (fun _ _ => .inl (by simp)) harr⟩
      | panic ch => exact ⟨_, a₁, w₁, ⟨E', D', L', q, r, s⟩, .pass (x := .inLoop c) rfl (fun _ _ => .inl (by simp)) harr⟩
      | outgrown => exact ⟨_, a₁, w₁, ⟨E', D', L', q, r, s⟩, .pass (x := .inLoop c) rfl (fun _ _ => .inl (by simp)) harr⟩
  intro b k cs hro hb hroom
  obtain ⟨e, a', w', hq, harr⟩ := key _ x0 a w rfl ⟨hr.1, hD ▸ hr.2.1, (hr.sub hE).2.2⟩ (hL F w hs) b k cs hro hb hroom
  exact ⟨e, a', w', hq, .of_steps (.one (fenced_calm hb hroom rfl) stepR_loop) harr⟩

/-! ### What is known, turned -/
theorem J_heap {c : Code} {L' : List HP} (hL : ∀ (F : HP) (w : World), Sat w (F :: L) → Sat w (F :: L')) (h : J P N rd c E D L' Q) : J P N rd c E D L Q := fun F a w hr hs => h F a w hr (hL F w hs)
theorem J_env {c : Code} {E' : Env} (hE : Sub E' E) (h : J P N rd c E' D L Q) : J P N rd c E D L Q := fun F a w hr hs => h F a w (hr.sub hE) hs
theorem J_fact {c : Code} {φ : Prop} (hL : ∀ (F : HP) (w : World), Sat w (F :: L) → φ) (h : φ → J P N rd c E D L Q) : J P N rd c E D L Q := fun F a w hr hs => h (hL F w hs) F a w hr hs
theorem J_ex {α : Sort _} {c : Code} {L' : α → List HP} (hL : ∀ (F : HP) (w : World), Sat w (F :: L) → ∃ x, Sat w (F :: L' x)) (h : ∀ x, J P N rd c E D (L' x) Q) : J P N rd c E D L Q :=
  fun F a w hr hs => let ⟨x, hx⟩ := hL F w hs; h x F a w hr hx
theorem JL_heap {all : Array Oper} {i : Nat} {rest : List Oper} {L' : List HP} (hL : ∀ (F : HP) (w : World), Sat w (F :: L) → Sat w (F :: L')) (h : JL P N rd all i rest E D L' Q) : JL P N rd all i rest E D L Q :=
  fun F a w hr hs => h F a w hr (hL F w hs)
theorem JL_env {all : Array Oper} {i : Nat} {rest : List Oper} {E' : Env} (hE : Sub E' E) (h : JL P N rd all i rest E' D L Q) : JL P N rd all i rest E D L Q := fun F a w hr hs => h F a w (hr.sub hE) hs
theorem JL_fact {all : Array Oper} {i : Nat} {rest : List Oper} {φ : Prop} (hL : ∀ (F : HP) (w : World), Sat w (F :: L) → φ) (h : φ → JL P N rd all i rest E D L Q) : JL P N rd all i rest E D L Q :=
  fun F a w hr hs => h (hL F w hs) F a w hr hs
theorem JL_ex {α : Sort _} {all : Array Oper} {i : Nat} {rest : List Oper} {L' : α → List HP} (hL : ∀ (F : HP) (w : World), Sat w (F :: L) → ∃ x, Sat w (F :: L' x)) (h : ∀ x, JL P N rd all i rest E D (L' x) Q) :
    JL P N rd all i rest E D L Q := fun F a w hr hs => let ⟨x, hx⟩ := hL F w hs; h x F a w hr hx

/-! ### Regions -/
theorem J_region {id : Nat} {ops : Array Oper} (h : JL P N rd ops 0 ops.toList E D L Q) : J P N rd (.region id ops false) E D L Q := fun F a w hr hs => by
  refine wpIn_region ?_
  have := h F a w hr hs rfl
  rw [List.range_eq_range']
  simpa using this

theorem JL_nil {all : Array Oper} {i : Nat} (h : Q .normal E D L) : JL P N rd all i [] E D L Q := fun _ _ _ hr hs _ => ⟨E, D, L, h, hr, hs⟩

theorem drop_cons {α : Type} {l : List α} {i : Nat} {o : α} {rest : List α} (h : l.drop i = o :: rest) : l[i]? = some o ∧ l.drop (i + 1) = rest := by
  have h1 : l[i]? = some o := by
    have := congrArg (·[0]?) h
    simpa using this
  refine ⟨h1, ?_⟩
  have := congrArg List.tail h
  simpa [List.tail_drop] using this

theorem JL_step {all : Array Oper} {i : Nat} {o : Oper} {rest : List Oper} (hg : o.guard = none)
    (h : JO P N rd o E D L (fun E' D' L' => JL P N rd all (i + 1) rest E' D' L' Q) Q) : JL P N rd all i (o :: rest) E D L Q := by
  intro F a w hr hs hd
  obtain ⟨h1, h2⟩ := drop_cons hd
  simp only [List.length_cons, List.range'_succ, wpOpsIn]
  have h3 : all[i]? = some o := by simpa using h1
  simp only [h3, Region.wanted, hg, if_true]
  exact h F a w hr hs _ fun E' D' L' a' w' hn hr' hs' => hn F a' w' hr' hs' h2

/-- What the guard of an operation says. -/
def gval (all : Array Oper) (E : Env) (j : Nat) : Option Bool :=
  match all[j]? with
  | some o => match o.dst with
    | some d => match Env.get E d with | some (.bool b) => some b | _ => none
    | none => none
  | none => none
theorem yielded_of {all : Array Oper} {E : Env} {j : Nat} {b : Bool} {a : Act} (hr : Rep N E D a) (h : gval all E j = some b) : yielded all a.tmps j = some b := by
  unfold gval at h
  split at h
  · rename_i o ho
    split at h
    · rename_i d hd
      split at h
      · rename_i b' hb
        cases h
        have := hr.2.2 d _ hb
        simp [yielded, ho, hd, this]
      · cases h
    · cases h
  · cases h

theorem JL_take {all : Array Oper} {i : Nat} {o : Oper} {rest : List Oper} {j : Nat} {want : Bool} (hg : o.guard = some (j, want)) (hv : gval all E j = some want)
    (h : JO P N rd o E D L (fun E' D' L' => JL P N rd all (i + 1) rest E' D' L' Q) Q) : JL P N rd all i (o :: rest) E D L Q := by
  intro F a w hr hs hd
  obtain ⟨h1, h2⟩ := drop_cons hd
  simp only [List.length_cons, List.range'_succ, wpOpsIn]
  have h3 : all[i]? = some o := by simpa using h1
  simp only [h3, Region.wanted, hg, yielded_of hr hv, beq_self_eq_true, if_true]
  exact h F a w hr hs _ fun E' D' L' a' w' hn hr' hs' => hn F a' w' hr' hs' h2

theorem JL_pass {all : Array Oper} {i : Nat} {o : Oper} {rest : List Oper} {j : Nat} {want : Bool} (hg : o.guard = some (j, want)) (hv : gval all E j = some (!want)) (hd : dok N o.dst = true)
    (h : JL P N rd all (i + 1) rest (put E o.dst undef) D L Q) : JL P N rd all i (o :: rest) E D L Q := by
  intro F a w hr hs hdr
  obtain ⟨h1, h2⟩ := drop_cons hdr
  simp only [List.length_cons, List.range'_succ, wpOpsIn]
  have h3 : all[i]? = some o := by simpa using h1
  have h4 : (some (!want) == some want) = false := by cases want <;> rfl
  simp only [h3, Region.wanted, hg, yielded_of hr hv, h4, if_false, Bool.false_eq_true]
  exact ⟨fun f _ => trivial, h F (a.put o.dst undef) w (hr.put hd undef) hs h2⟩

theorem JO_mono {o : Oper} {next next' : Env → List Deferred → List HP → Prop} (h : JO P N rd o E D L next Q) (hn : ∀ E D L, next E D L → next' E D L) : JO P N rd o E D L next' Q :=
  fun F a w hr hs nx hx => h F a w hr hs nx fun E' D' L' a' w' q => hx E' D' L' a' w' (hn _ _ _ q)

/-- An operation that is no defer statement, by its run: a value. -/
theorem JO_value {o : Oper} {next : Env → List Deferred → List HP → Prop} (hnd : ∀ c, o.op ≠ .defer c) (hd : dok N o.dst = true)
    (h : ∀ (F : HP) (a : Act) (w : World), Rep N E D a → Sat w (F :: L) → ∃ v w' L', (execOp a.eval o).run P w = .ok (.value v) w' ∧ Sat w' (F :: L') ∧ next (put E o.dst v) D L') : JO P N rd o E D L next Q := by
  intro F a w hr hs nx hx
  obtain ⟨v, w', L', h1, h2, h3⟩ := h F a w hr hs
  refine ⟨fun _ _ => trivial, ?_⟩
  rw [Oper.semAt_eq _ _ _ hnd, h1]
  exact hx _ _ _ _ _ h3 (hr.put hd v) h2
theorem JO_unit {o : Oper} {next : Env → List Deferred → List HP → Prop} (hnd : ∀ c, o.op ≠ .defer c) (hd : dok N o.dst = true)
    (h : ∀ (F : HP) (a : Act) (w : World), Rep N E D a → Sat w (F :: L) → ∃ w' L', (execOp a.eval o).run P w = .ok .skip w' ∧ Sat w' (F :: L') ∧ next (put E o.dst undef) D L') : JO P N rd o E D L next Q := by
  intro F a w hr hs nx hx
  obtain ⟨w', L', h1, h2, h3⟩ := h F a w hr hs
  refine ⟨fun _ _ => trivial, ?_⟩
  rw [Oper.semAt_eq _ _ _ hnd, h1]
  exact hx _ _ _ _ _ h3 (hr.put hd undef) h2
/-- An operation that panics. -/
theorem JO_panics {o : Oper} {next : Env → List Deferred → List HP → Prop} (hnd : ∀ c, o.op ≠ .defer c)
    (h : ∀ (F : HP) (a : Act) (w : World), Rep N E D a → Sat w (F :: L) → ∃ v w' L', (execOp a.eval o).run P w = .halt (.panic v) w' ∧ Sat w' (F :: L') ∧ Q (.panic [{ v, recovered := false }]) E D L') : JO P N rd o E D L next Q := by
  intro F a w hr hs nx hx
  obtain ⟨v, w', L', h1, h2, h3⟩ := h F a w hr hs
  refine ⟨fun _ _ => trivial, ?_⟩
  rw [Oper.semAt_eq _ _ _ hnd, h1]
  exact ⟨E, D, L', h3, hr, h2⟩

/-! ### Calls -/
theorem fw_wide (rd : Option Nat) {n : Nat} {f : FuncId} {args : Array Value} {w : World} {R : Ending → World → Prop} (h : Calls P f args w R) : CallsIn (FW rd) n P f args w R := callsIn_wide.2 h

/-- An operation that enters a Go function, by its contract. -/
theorem JO_enter {o : Oper} {next : Env → List Deferred → List HP → Prop} {f : FuncId} {args : Array Value} {R : Ending → List HP → Prop} (hnd : ∀ c, o.op ≠ .defer c) (hd : dok N o.dst = true)
    (he : ∀ (a : Act) (w : World), Rep N E D a → (execOp a.eval o).run P w = .ok (.enter f args) w) (hc : Ct P f args L R)
    (hv : ∀ v L', R (.returned v) L' → next (put E o.dst v) D L') (hp : ∀ ch L', R (.panicked ch) L' → Q (.panic ch) E D L') : JO P N rd o E D L next Q := by
  intro F a w hr hs nx hx
  refine ⟨fun _ _ => trivial, ?_⟩
  rw [Oper.semAt_eq _ _ _ hnd, he a w hr]
  refine ⟨fun h => by simp [FW, Fence.wide] at h, fw_wide rd ?_⟩
  refine (hc F w hs).mono ?_
  rintro e w' ⟨hne, L', hR, hs'⟩
  cases e with
  | returned v => exact hx _ _ _ _ _ (hv v L' hR) (hr.put hd v) hs'
  | panicked ch => exact ⟨E, D, L', hp ch L' hR, hr, hs'⟩
  | outgrown => exact absurd rfl hne

theorem Ct.mono {f : FuncId} {args : Array Value} {R R' : Ending → List HP → Prop} (h : Ct P f args L R) (hr : ∀ e L', R e L' → R' e L') : Ct P f args L R' :=
  fun F w hs => (h F w hs).mono fun _ _ ⟨hne, L', r, s⟩ => ⟨hne, L', hr _ _ r, s⟩
/-- What is not named stays. -/
theorem Ct.frame {f : FuncId} {args : Array Value} {R : Ending → List HP → Prop} (h : Ct P f args L R) (M : List HP) : Ct P f args (L ++ M) fun e L'' => ∃ L', R e L' ∧ L'' = L' ++ M := by
  intro F w hs
  have hs' : Sat w (Star (F :: M) :: L) := by
    refine Sat.fold.1 (hs.perm ?_)
    refine List.Perm.cons F ?_
    exact List.perm_append_comm
  refine (h _ w hs').mono ?_
  rintro e w' ⟨hne, L', hR, hs2⟩
  refine ⟨hne, L' ++ M, ⟨L', hR, rfl⟩, ?_⟩
  refine (Sat.fold.2 hs2).perm ?_
  exact List.Perm.cons F List.perm_append_comm
theorem Ct.heap {f : FuncId} {args : Array Value} {R : Ending → List HP → Prop} {L' : List HP} (hL : ∀ (F : HP) (w : World), Sat w (F :: L) → Sat w (F :: L')) (h : Ct P f args L' R) : Ct P f args L R :=
  fun F w hs => h F w (hL F w hs)

/-- The frame with which a function begins. -/
def argEnv : Nat → List Value → Env
  | _, [] => []
  | i, v :: vs => (i, v) :: argEnv (i + 1) vs
theorem argEnv_get : ∀ (vs : List Value) (i t : Nat) (v : Value), Env.get (argEnv i vs) t = some v → i ≤ t ∧ vs[t - i]? = some v := by
  intro vs
  induction vs with
  | nil => intro i t v e; simp [argEnv, Env.get] at e
  | cons u vs ih =>
    intro i t v e
    simp only [argEnv, get_cons] at e
    by_cases h : i = t
    · subst h; simp at e; subst e; simp
    · simp only [h, if_false] at e
      obtain ⟨h1, h2⟩ := ih (i + 1) t v e
      refine ⟨by omega, ?_⟩
      rw [show t - i = (t - (i + 1)) + 1 from by omega]
      simpa using h2
theorem rep_args (vs : List Value) (hN : vs.length ≤ N) : Rep N (argEnv 0 vs) [] { tmps := vs.toArray ++ Array.replicate (N - vs.toArray.size) undef, defers := [] } := by
  refine ⟨by simp; omega, rfl, fun t v e => ?_⟩
  obtain ⟨_, h2⟩ := argEnv_get vs 0 t v e
  simp only [Nat.sub_zero] at h2
  have := List.getElem?_eq_some_iff.1 h2
  obtain ⟨hlt, hv⟩ := this
  simp [Array.getElem?_append, hlt, hv]

/-- What a function hands back: its results, read at its end. -/
def Res (P : Program) (N : Nat) (fn : Func) (E : Env) (L : List HP) (v : Value) : Prop :=
  ∀ (F : HP) (a : Act) (w : World) (D : List Deferred), Rep N E D a → Sat w (F :: L) → (results fn a.tmps).run P w = .ok v w

def bodyQ (P : Program) (N : Nat) (fn : Func) (R : Ending → List HP → Prop) : Post
  | .normal, E, D, L | .ret, E, D, L => D = [] ∧ ∃ v, Res P N fn E L v ∧ R (.returned v) L
  | .panic ch, _, D, L => D = [] ∧ R (.panicked ch) L
  | _, _, _, _ => False

theorem fn_body {f : FuncId} {fn : Func} {c : Code} {vs : List Value} {R : Ending → List HP → Prop} (hf : P.funcs[f]? = some fn) (hb : fn.body = some c) (hn : fn.ntmps = N) (hN : vs.length ≤ N)
    (h : J P N none c (argEnv 0 vs) [] L (bodyQ P N fn R)) : Ct P f vs.toArray L R := by
  intro F w hs
  refine (callsIn_wide (n := 0)).1 (callsIn_of_wp hf hb trivial ?_ rfl)
  have h1 := h F _ w (rep_args vs hN) hs
  rw [hn]
  refine wpIn_mono h1 ?_
  rintro e a w' ⟨E, D, L', q, r, s⟩
  cases e with
  | normal => obtain ⟨hD, v, hv, hR⟩ := q; exact ⟨r.2.1.trans hD, v, hv F a w' D r s, by simp, L', hR, s⟩
  | ret => obtain ⟨hD, v, hv, hR⟩ := q; exact ⟨r.2.1.trans hD, v, hv F a w' D r s, by simp, L', hR, s⟩
  | panic ch => obtain ⟨hD, hR⟩ := q; exact ⟨r.2.1.trans hD, by simp, L', hR, s⟩
  | exit id => exact q.elim
  | goto l => exact q.elim
  | outgrown => exact q.elim

theorem res_none {fn : Func} (h : fn.results = #[]) : Res P N fn E L (.tuple #[]) := fun _ a w _ _ _ => by simp [results, h]
theorem res_one {fn : Func} {t : Nat} {v : Value} (h : fn.results = #[.tmp t]) (hv : Env.get E t = some v) : Res P N fn E L v := fun _ a w _ hr _ => by
  have h1 : (a.tmps.getD t undef) = v := hr.eval (x := .tmp t) hv
  simp [results, h, ← h1]
theorem res_two {fn : Func} {t u : Nat} {v x : Value} (h : fn.results = #[.tmp t, .tmp u]) (hv : Env.get E t = some v) (hx : Env.get E u = some x) : Res P N fn E L (.tuple #[v, x]) := fun _ a w _ hr _ => by
  have h1 : (a.tmps.getD t undef) = v := hr.eval (x := .tmp t) hv
  have h2 : (a.tmps.getD u undef) = x := hr.eval (x := .tmp u) hx
  simp [results, h, ← h1, ← h2]
theorem res_three {fn : Func} {t u s : Nat} {v x y : Value} (h : fn.results = #[.tmp t, .tmp u, .tmp s]) (hv : Env.get E t = some v) (hx : Env.get E u = some x) (hy : Env.get E s = some y) : Res P N fn E L (.tuple #[v, x, y]) := fun _ a w _ hr _ => by
  have h1 : (a.tmps.getD t undef) = v := hr.eval (x := .tmp t) hv
  have h2 : (a.tmps.getD u undef) = x := hr.eval (x := .tmp u) hx
  have h3 : (a.tmps.getD s undef) = y := hr.eval (x := .tmp s) hy
  simp [results, h, ← h1, ← h2, ← h3]
end
end Go.Sp
