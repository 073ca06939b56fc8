/- A small separation logic over the model's worlds: parts of a heap (each block owned, or frozen), lists of assertions, and what a world must hold. No program in sight. -/
import Derived.CallsIn
import Derived.RangeFuncLeaves
import Derived.RecoverIn
import Derived.KernelRfl
namespace Go.Sp

/-- A part of a heap: a block is owned (false) or frozen for good (true). -/
inductive Cel where
  | obj (o : Obj)
  | stat (os : Os) (tape : Nat → Question → Nat) (output : Array (Nat × ByteArray))
/-- What a world has at a place: a block; the world's other parts (none). -/
def at_ (w : World) : Option Nat → Option Cel
  | some b => (w.heap[b]?).map .obj
  | none => some (.stat w.os w.tape w.output)
abbrev Part := Option Nat → Option (Bool × Cel)

def Le (h1 h : Part) : Prop := ∀ b x, h1 b = some x → h b = some x
def Comp (h1 h2 : Part) : Prop := ∀ b x y, h1 b = some x → h2 b = some y → x.1 = true ∧ x = y
def jn (h1 h2 : Part) : Part := fun b => match h1 b with | some x => some x | none => h2 b
def ice (h : Part) : Part := fun b => match h b with | some (true, o) => some (true, o) | _ => none

abbrev HP := Part → Prop

def Star : List HP → Part → Prop
  | [], _ => True
  | A :: L, h => ∃ h1 h2, Comp h1 h2 ∧ Le h1 h ∧ Le h2 h ∧ A h1 ∧ Star L h2

theorem Le.refl (h : Part) : Le h h := fun _ _ e => e
theorem Le.trans {a b c : Part} (h : Le a b) (k : Le b c) : Le a c := fun _ _ e => k _ _ (h _ _ e)
theorem Comp.symm {a b : Part} (h : Comp a b) : Comp b a := fun k x y hx hy => by
  obtain ⟨h1, h2⟩ := h k y x hy hx
  exact ⟨h2 ▸ h1, h2.symm⟩
theorem Comp.le {a b a' b' : Part} (h : Comp a b) (ha : Le a' a) (hb : Le b' b) : Comp a' b' := fun k x y hx hy => h k x y (ha _ _ hx) (hb _ _ hy)
theorem le_join_l (a b : Part) : Le a (jn a b) := fun k x h => by simp [jn, h]
theorem le_join_r {a b : Part} (hc : Comp a b) : Le b (jn a b) := fun k x h => by
  unfold jn
  cases ha : a k with
  | none => exact h
  | some y => exact congrArg some (hc k y x ha h).2
theorem join_le {a b h : Part} (ha : Le a h) (hb : Le b h) : Le (jn a b) h := fun k x e => by
  unfold jn at e
  cases hk : a k with
  | none => rw [hk] at e; exact hb _ _ e
  | some y => rw [hk] at e; exact ha _ _ (by rw [hk]; exact e)
theorem join_some {a b : Part} {k : Option Nat} {x : Bool × Cel} (e : jn a b k = some x) : a k = some x ∨ b k = some x := by
  unfold jn at e
  cases hk : a k with
  | none => rw [hk] at e; exact .inr e
  | some y => rw [hk] at e; exact .inl e
theorem comp_join {a b c : Part} (h1 : Comp a b) (h2 : Comp a c) : Comp a (jn b c) := fun k x y hx hy => by
  rcases join_some hy with h | h
  · exact h1 k x y hx h
  · exact h2 k x y hx h

theorem Star.le {L : List HP} {h h' : Part} (hs : Star L h) (hl : Le h h') : Star L h' := by
  cases L with
  | nil => trivial
  | cons A L => obtain ⟨a, b, c, d, e, f, g⟩ := hs; exact ⟨a, b, c, d.trans hl, e.trans hl, f, g⟩

theorem Star.swap {A B : HP} {L : List HP} {h : Part} (hs : Star (A :: B :: L) h) : Star (B :: A :: L) h := by
  obtain ⟨ha, h2, c1, l1, l2, pa, hb, hl, c2, l3, l4, pb, ps⟩ := hs
  have cal : Comp ha hl := c1.le (Le.refl _) l4
  refine ⟨hb, jn ha hl, comp_join (c1.le (Le.refl _) l3).symm c2, l3.trans l2, join_le l1 (l4.trans l2), pb, ha, hl, cal, le_join_l _ _, le_join_r cal, pa, ps⟩

theorem Star.perm {L L' : List HP} (p : L.Perm L') : ∀ {h : Part}, Star L h → Star L' h := by
  induction p with
  | nil => exact fun h => h
  | cons A _ ih => rintro h ⟨a, b, c, d, e, f, g⟩; exact ⟨a, b, c, d, e, f, ih g⟩
  | swap A B L => exact fun h => h.swap
  | trans _ _ i1 i2 => exact fun h => i2 (i1 h)

theorem Star.tail {A : HP} {L : List HP} {h : Part} (hs : Star (A :: L) h) : Star L h := by
  obtain ⟨_, b, _, _, e, _, g⟩ := hs; exact g.le e

theorem Star.sub {L L' : List HP} (p : L'.Sublist L) : ∀ {h : Part}, Star L h → Star L' h := by
  induction p with
  | slnil => exact fun h => h
  | cons A _ ih => exact fun h => ih h.tail
  | cons_cons A _ ih => rintro h ⟨a, b, c, d, e, f, g⟩; exact ⟨a, b, c, d, e, f, ih g⟩

/-- Two lists side by side. -/
theorem star_append {L1 L2 : List HP} : ∀ {h : Part}, Star (L1 ++ L2) h ↔ ∃ h1 h2, Comp h1 h2 ∧ Le h1 h ∧ Le h2 h ∧ Star L1 h1 ∧ Star L2 h2 := by
  induction L1 with
  | nil =>
    intro h
    exact ⟨fun hs => ⟨fun _ => none, h, fun k x y hx => by simp at hx, fun k x hx => by simp at hx, Le.refl _, trivial, hs⟩, fun ⟨_, _, _, _, l, _, s⟩ => Star.le s l⟩
  | cons A L1 ih =>
    intro h
    constructor
    · rintro ⟨ha, h2, c, l1, l2, pa, hs⟩
      obtain ⟨hb, hc, c2, l3, l4, s1, s2⟩ := ih.1 hs
      refine ⟨jn ha hb, hc, (comp_join (c.le (Le.refl _) l4).symm c2.symm).symm, join_le l1 (l3.trans l2), l4.trans l2, ⟨ha, hb, c.le (Le.refl _) l3, le_join_l _ _, le_join_r (c.le (Le.refl _) l3), pa, s1⟩, s2⟩
    · rintro ⟨h1, h2, c, l1, l2, ⟨ha, hb, c2, l3, l4, pa, s1⟩, s2⟩
      have cb : Comp hb h2 := c.le l4 (Le.refl _)
      refine ⟨ha, jn hb h2, comp_join c2 (c.le l3 (Le.refl _)), l3.trans l1, join_le (l4.trans l1) l2, pa, ?_⟩
      exact ih.2 ⟨hb, h2, cb, le_join_l _ _, le_join_r cb, s1, s2⟩

/-- What a world holds. -/
def Sat (w : World) (L : List HP) : Prop := ∃ h, Star L h ∧ ∀ b x, h b = some x → at_ w b = some x.2

theorem Sat.perm {w : World} {L L' : List HP} (h : Sat w L) (p : L.Perm L') : Sat w L' := let ⟨k, s, e⟩ := h; ⟨k, s.perm p, e⟩
theorem Sat.sub {w : World} {L L' : List HP} (h : Sat w L) (p : L'.Sublist L) : Sat w L' := let ⟨k, s, e⟩ := h; ⟨k, s.sub p, e⟩
theorem Sat.tail {w : World} {A : HP} {L : List HP} (h : Sat w (A :: L)) : Sat w L := let ⟨k, s, e⟩ := h; ⟨k, s.tail, e⟩
theorem Sat.swap {w : World} {A B : HP} {L : List HP} (h : Sat w (A :: B :: L)) : Sat w (B :: A :: L) := let ⟨k, s, e⟩ := h; ⟨k, s.swap, e⟩

/-- The heads, joined to one assertion (for frames). -/
theorem Sat.fold {w : World} {L1 L2 : List HP} : Sat w (L1 ++ L2) ↔ Sat w (Star L1 :: L2) := by
  constructor
  · rintro ⟨h, s, e⟩; obtain ⟨h1, h2, c, l1, l2, s1, s2⟩ := star_append.1 s; exact ⟨h, ⟨h1, h2, c, l1, l2, s1, s2⟩, e⟩
  · rintro ⟨h, ⟨h1, h2, c, l1, l2, s1, s2⟩, e⟩; exact ⟨h, star_append.2 ⟨h1, h2, c, l1, l2, s1, s2⟩, e⟩

/-- An assertion turned into another that follows from it. -/
theorem Sat.conv {w : World} {A B : HP} {L : List HP} (h : Sat w (A :: L)) (hab : ∀ k, A k → B k) : Sat w (B :: L) := by
  obtain ⟨k, ⟨a, b, c, d, e, f, g⟩, m⟩ := h; exact ⟨k, ⟨a, b, c, d, e, hab _ f, g⟩, m⟩
/-- What an assertion says besides. -/
theorem Sat.out {w : World} {A : HP} {L : List HP} {φ : Prop} (h : Sat w (A :: L)) (hab : ∀ k, A k → φ) : φ := by
  obtain ⟨k, ⟨a, b, c, d, e, f, g⟩, m⟩ := h; exact hab _ f
theorem Sat.outE {w : World} {A : HP} {L : List HP} {α : Sort _} {B : α → HP} (h : Sat w (A :: L)) (hab : ∀ k, A k → ∃ x, B x k) : ∃ x, Sat w (B x :: L) := by
  obtain ⟨k, ⟨a, b, c, d, e, f, g⟩, m⟩ := h
  obtain ⟨x, hx⟩ := hab _ f
  exact ⟨x, k, ⟨a, b, c, d, e, hx, g⟩, m⟩
/-- One assertion as several. -/
theorem Sat.split {w : World} {A : HP} {M L : List HP} (h : Sat w (A :: L)) (hab : ∀ k, A k → Star M k) : Sat w (M ++ L) :=
  Sat.fold.2 (h.conv hab)
theorem Sat.join {w : World} {A : HP} {M L : List HP} (h : Sat w (M ++ L)) (hab : ∀ k, Star M k → A k) : Sat w (A :: L) :=
  (Sat.fold.1 h).conv hab

/-- What asks nothing. -/
theorem Sat.add {w : World} {A : HP} {L : List HP} (h : Sat w L) (hA : A (fun _ => none)) : Sat w (A :: L) := by
  obtain ⟨k, s, m⟩ := h
  exact ⟨k, ⟨fun _ => none, k, fun _ _ _ hx => (by cases hx), fun _ _ hx => (by cases hx), Le.refl _, hA, s⟩, m⟩

/-! ### Blocks -/
def pt (b : Nat) (o : Obj) : HP := fun h => h (some b) = some (false, .obj o)
def ro (b : Nat) (o : Obj) : HP := fun h => h (some b) = some (true, .obj o)

theorem at_obj {w : World} {b : Nat} {o : Obj} (h : at_ w (some b) = some (.obj o)) : w.heap[b]? = some o := by
  simp only [at_, Option.map_eq_some_iff] at h
  obtain ⟨o', h1, h2⟩ := h
  cases h2
  exact h1
theorem Sat.pt_heap {w : World} {b : Nat} {o : Obj} {L : List HP} (h : Sat w (pt b o :: L)) : w.heap[b]? = some o := by
  obtain ⟨k, ⟨a, _, _, d, _, f, _⟩, m⟩ := h; exact at_obj (m _ _ (d _ _ f))
theorem Sat.ro_heap {w : World} {b : Nat} {o : Obj} {L : List HP} (h : Sat w (ro b o :: L)) : w.heap[b]? = some o := by
  obtain ⟨k, ⟨a, _, _, d, _, f, _⟩, m⟩ := h; exact at_obj (m _ _ (d _ _ f))

/-- An assertion that speaks of frozen blocks alone. -/
def Pers (A : HP) : Prop := ∀ h, A h → A (ice h)
/-- An assertion that holds of more, too. -/
def Up (A : HP) : Prop := ∀ h h', Le h h' → A h → A h'
theorem ice_le (h : Part) : Le (ice h) h := fun b x e => by
  unfold ice at e
  split at e
  · rename_i o ho; rw [ho]; exact e
  · cases e
theorem ice_comp (h : Part) : Comp (ice h) h := fun b x y e k => by
  have := ice_le h b x e
  have hxy : y = x := Option.some.inj (k.symm.trans this)
  subst hxy
  unfold ice at e
  rw [k] at e
  obtain ⟨f, o⟩ := y
  cases f
  · cases e
  · exact ⟨rfl, rfl⟩
theorem ice_ice {h : Part} {b : Option Nat} {o : Cel} (e : h b = some (true, o)) : ice h b = some (true, o) := by simp [ice, e]

theorem Sat.dup {w : World} {A : HP} {L : List HP} (h : Sat w (A :: L)) (hp : Pers A) : Sat w (A :: A :: L) := by
  obtain ⟨k, ⟨a, b, c, d, e, f, g⟩, m⟩ := h
  refine ⟨k, ⟨ice a, jn a b, ?_, (ice_le a).trans d, join_le d e, hp _ f, a, b, c, le_join_l _ _, le_join_r c, f, g⟩, m⟩
  exact comp_join (ice_comp a) (c.le (ice_le a) (Le.refl _))

theorem pers_ro (b : Nat) (o : Obj) : Pers (ro b o) := fun _ e => ice_ice e

/-! ### Steps of the heap -/
def setObj (w : World) (b : Nat) (o : Obj) : World := { w with heap := w.heap.setIfInBounds b o }
def upd (h : Part) (b : Option Nat) (x : Bool × Cel) : Part := fun k => if k = b then some x else h k

theorem Sat.set {w : World} {b : Nat} {o : Obj} {L : List HP} (h : Sat w (pt b o :: L)) (o' : Obj) (fr : Bool) : Sat (setObj w b o') ((if fr then ro b o' else pt b o') :: L) := by
  have hb := h.pt_heap
  obtain ⟨k, ⟨a, l, c, d, e, f, g⟩, m⟩ := h
  have hl : l (some b) = none := by
    cases hlb : l (some b) with
    | none => rfl
    | some y => have := (c _ _ y f hlb).1; cases this
  refine ⟨upd l (some b) (fr, .obj o'), ⟨fun k => if k = some b then some (fr, .obj o') else none, l, ?_, ?_, ?_, ?_, g⟩, ?_⟩
  · intro k x y hx hy
    by_cases hk : k = some b
    · subst hk; rw [hl] at hy; cases hy
    · simp [hk] at hx
  · intro k x hx
    by_cases hk : k = some b
    · simpa [upd, hk] using hx
    · simp [hk] at hx
  · intro k x hx
    by_cases hk : k = some b
    · subst hk; rw [hl] at hx; cases hx
    · simpa [upd, hk] using hx
  · cases fr <;> simp [pt, ro]
  · intro k x hx
    unfold upd at hx
    by_cases hk : k = some b
    · subst hk
      simp at hx
      subst hx
      have := Array.getElem?_eq_some_iff.1 hb
      simp [at_, setObj, this.1]
    · simp only [hk, if_false] at hx
      have := m k x (e _ _ hx)
      cases k with
      | none => simpa [at_, setObj] using this
      | some j =>
        have hj : ¬ b = j := fun e => hk (by rw [e])
        simpa [at_, setObj, Array.getElem?_setIfInBounds, hj] using this

theorem Sat.set_pt {w : World} {b : Nat} {o : Obj} {L : List HP} (h : Sat w (pt b o :: L)) (o' : Obj) : Sat (setObj w b o') (pt b o' :: L) := h.set o' false

theorem setObj_same {w : World} {b : Nat} {o : Obj} (hb : w.heap[b]? = some o) : setObj w b o = w := by
  unfold setObj
  have h2 := Array.getElem?_eq_some_iff.1 hb
  have : w.heap.setIfInBounds b o = w.heap := by
    apply Array.ext_getElem?
    intro i
    by_cases hi : i = b
    · subst hi; simp [h2.1, h2.2]
    · simp [Array.getElem?_setIfInBounds, Ne.symm hi]
  rw [this]
/-- Freezing a block is no step of the world's. -/
theorem Sat.freeze {w : World} {b : Nat} {o : Obj} {L : List HP} (h : Sat w (pt b o :: L)) : Sat w (ro b o :: L) := by
  have := h.set o true
  rw [setObj_same h.pt_heap] at this
  simpa using this

theorem Sat.new {w : World} {L : List HP} (h : Sat w L) (o : Obj) : Sat { w with heap := w.heap.push o } (pt w.heap.size o :: L) := by
  obtain ⟨k, s, m⟩ := h
  have hk : k (some w.heap.size) = none := by
    cases hh : k (some w.heap.size) with
    | none => rfl
    | some y => have := m _ _ hh; simp [at_] at this
  refine ⟨upd k (some w.heap.size) (false, .obj o), ⟨fun j => if j = some w.heap.size then some (false, .obj o) else none, k, ?_, ?_, ?_, ?_, s⟩, ?_⟩
  · intro j x y hx hy
    by_cases hj : j = some w.heap.size
    · subst hj; rw [hk] at hy; cases hy
    · simp [hj] at hx
  · intro j x hx
    by_cases hj : j = some w.heap.size
    · simpa [upd, hj] using hx
    · simp [hj] at hx
  · intro j x hx
    by_cases hj : j = some w.heap.size
    · subst hj; rw [hk] at hx; cases hx
    · simpa [upd, hj] using hx
  · simp [pt]
  · intro j x hx
    unfold upd at hx
    by_cases hj : j = some w.heap.size
    · subst hj; simp at hx; subst hx; simp [at_]
    · simp only [hj, if_false] at hx
      have := m j x hx
      cases j with
      | none => simpa [at_] using this
      | some i =>
        simp only [at_, Option.map_eq_some_iff] at this ⊢
        obtain ⟨o', h1, h2⟩ := this
        have h3 := Array.getElem?_eq_some_iff.1 h1
        obtain ⟨h4, _⟩ := h3
        have h5 : ¬ i = w.heap.size := by omega
        exact ⟨o', by simp [Array.getElem?_push, h5, h1], h2⟩

/-- A world with more blocks, and one block turned. -/
theorem Sat.grown {w w' : World} {b : Nat} {o o' : Obj} {L : List HP} (h : Sat w (pt b o :: L)) (ho : w'.os = w.os) (ht : w'.tape = w.tape) (hp : w'.output = w.output)
    (hk : ∀ k, k < w.heap.size → k ≠ b → w'.heap[k]? = w.heap[k]?) (hb' : w'.heap[b]? = some o') : Sat w' (pt b o' :: L) := by
  have hs := h.set_pt o'
  have hb := h.pt_heap
  obtain ⟨k, s, m⟩ := hs
  refine ⟨k, s, fun j x hx => ?_⟩
  have := m j x hx
  cases j with
  | none => simpa [at_, setObj, ho, ht, hp] using this
  | some i =>
    simp only [at_, Option.map_eq_some_iff] at this ⊢
    obtain ⟨u, h1, h2⟩ := this
    refine ⟨u, ?_, h2⟩
    by_cases hi : i = b
    · subst hi
      have := Array.getElem?_eq_some_iff.1 hb
      simp [setObj, this.1] at h1
      rw [hb', h1]
    · simp [setObj, Array.getElem?_setIfInBounds, Ne.symm hi] at h1
      have h3 := Array.getElem?_eq_some_iff.1 h1
      rw [hk i h3.1 hi, h1]
/-- A world with more blocks. -/
theorem Sat.more {w w' : World} {L : List HP} (h : Sat w L) (ho : w'.os = w.os) (ht : w'.tape = w.tape) (hp : w'.output = w.output)
    (hk : ∀ k, k < w.heap.size → w'.heap[k]? = w.heap[k]?) : Sat w' L := by
  obtain ⟨k, s, m⟩ := h
  refine ⟨k, s, fun j x hx => ?_⟩
  have := m j x hx
  cases j with
  | none => simpa [at_, ho, ht, hp] using this
  | some i =>
    simp only [at_, Option.map_eq_some_iff] at this ⊢
    obtain ⟨u, h1, h2⟩ := this
    have h3 := Array.getElem?_eq_some_iff.1 h1
    exact ⟨u, by rw [hk i h3.1, h1], h2⟩
/-- .. of which one is new, at a known place beyond the old ones. -/
theorem Sat.more_new {w w' : World} {b : Nat} {o : Obj} {L : List HP} (h : Sat w L) (ho : w'.os = w.os) (ht : w'.tape = w.tape) (hp : w'.output = w.output)
    (hk : ∀ k, k < w.heap.size → w'.heap[k]? = w.heap[k]?) (hb : w.heap.size ≤ b) (hb' : w'.heap[b]? = some o) : Sat w' (pt b o :: L) := by
  obtain ⟨k, s, m⟩ := h
  have hkb : k (some b) = none := by
    cases hh : k (some b) with
    | none => rfl
    | some y =>
      have := m _ _ hh
      simp only [at_, Option.map_eq_some_iff] at this
      obtain ⟨u, h1, _⟩ := this
      have := (Array.getElem?_eq_some_iff.1 h1).1
      omega
  refine ⟨upd k (some b) (false, .obj o), ⟨fun j => if j = some b then some (false, .obj o) else none, k, ?_, ?_, ?_, ?_, s⟩, ?_⟩
  · intro j x y hx hy
    by_cases hj : j = some b
    · subst hj; rw [hkb] at hy; cases hy
    · simp [hj] at hx
  · intro j x hx
    by_cases hj : j = some b
    · simpa [upd, hj] using hx
    · simp [hj] at hx
  · intro j x hx
    by_cases hj : j = some b
    · subst hj; rw [hkb] at hx; cases hx
    · simpa [upd, hj] using hx
  · simp [pt]
  · intro j x hx
    unfold upd at hx
    by_cases hj : j = some b
    · subst hj; simp at hx; subst hx; simp [at_, hb']
    · simp only [hj, if_false] at hx
      have := m j x hx
      cases j with
      | none => simpa [at_, ho, ht, hp] using this
      | some i =>
        simp only [at_, Option.map_eq_some_iff] at this ⊢
        obtain ⟨u, h1, h2⟩ := this
        have h3 := Array.getElem?_eq_some_iff.1 h1
        exact ⟨u, by rw [hk i h3.1, h1], h2⟩

/-- A world's other parts do not matter, but these three. -/
theorem Sat.world {w w' : World} {L : List HP} (h : Sat w L) (e : w'.heap = w.heap) (ho : w'.os = w.os := by rfl) (ht : w'.tape = w.tape := by rfl) (hp : w'.output = w.output := by rfl) : Sat w' L :=
  h.more ho ht hp fun k _ => by rw [e]

/-- All that lay there when a law's call began, frozen. -/
def Base (w0 : World) : HP := fun h => (∀ b o, w0.heap[b]? = some o → h (some b) = some (true, .obj o)) ∧ h none = some (true, .stat w0.os w0.tape w0.output)
theorem sat_base (w : World) : Sat w [Base w] := by
  refine ⟨fun b => (at_ w b).map fun o => (true, o), ⟨_, fun _ => none, ?_, Le.refl _, ?_, ⟨fun b o h => by simp [at_, h], by simp [at_]⟩, trivial⟩, fun b x hx => ?_⟩
  · intro b x y _ hy; cases hy
  · intro b x hx; cases hx
  · simp only [Option.map_eq_some_iff] at hx
    obtain ⟨o, h1, rfl⟩ := hx
    exact h1
theorem pers_base (w : World) : Pers (Base w) := fun _ h => ⟨fun b o e => ice_ice (h.1 b o e), ice_ice h.2⟩
theorem Sat.base {w w0 : World} {L : List HP} (h : Sat w (Base w0 :: L)) : (∀ (b : Nat) (o : Obj), w0.heap[b]? = some o → w.heap[b]? = some o) ∧ w.os = w0.os ∧ w.tape = w0.tape ∧ w.output = w0.output := by
  obtain ⟨k, ⟨a, l, c, d, e, f, g⟩, m⟩ := h
  refine ⟨fun b o hb => at_obj (m _ _ (d _ _ (f.1 b o hb))), ?_⟩
  have := m _ _ (d _ _ f.2)
  simp only [at_, Option.some.injEq] at this
  injection this with h1 h2 h3
  exact ⟨h1, h2, h3⟩
theorem ro_of_base {w0 : World} {b : Nat} {o : Obj} (hb : w0.heap[b]? = some o) : ∀ h, Base w0 h → ro b o h := fun _ h => h.1 b o hb

end Go.Sp
