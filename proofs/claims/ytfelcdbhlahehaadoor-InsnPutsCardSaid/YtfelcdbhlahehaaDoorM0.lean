/- A small separation logic over the model's worlds: parts of a heap (each block owned, or frozen), lists of assertions, and what a world must hold. No program in sight. -/
import Derived.CallsIn
import Derived.RangeFuncLeaves
import Derived.RecoverIn
import Derived.KernelRfl
import Derived.WalkKit
import Derived.Laws.OwnMore
import Derived.Lib.SliceRun
import Derived.RangeFuncNested
import Derived.Test.YtfelcdbhlahehaaDoorProg
namespace Go.Sp

/-- A part of a heap: a block is owned (false) or frozen for good (true). -/
inductive Cel where
  | obj (o : Obj)
  | stat (os : Os) (tape : Nat → Question → Nat) (output : Array (Nat × ByteArray))
/-- What a world has at a place: a block; the world's other parts (none). -/
def at_ (w : World) : Option Nat → Option Cel
  | some b => (w.heap[b]?).map .obj
  | none => some (.stat w.os w.tape w.output)
abbrev Part := Option Nat → Option (Bool × Cel)

def Le (h1 h : Part) : Prop := ∀ b x, h1 b = some x → h b = some x
def Comp (h1 h2 : Part) : Prop := ∀ b x y, h1 b = some x → h2 b = some y → x.1 = true ∧ x = y
def jn (h1 h2 : Part) : Part := fun b => match h1 b with | some x => some x | none => h2 b
def ice (h : Part) : Part := fun b => match h b with | some (true, o) => some (true, o) | _ => none

abbrev HP := Part → Prop

def Star : List HP → Part → Prop
  | [], _ => True
  | A :: L, h => ∃ h1 h2, Comp h1 h2 ∧ Le h1 h ∧ Le h2 h ∧ A h1 ∧ Star L h2

theorem Le.refl (h : Part) : Le h h := fun _ _ e => e
theorem Le.trans {a b c : Part} (h : Le a b) (k : Le b c) : Le a c := fun _ _ e => k _ _ (h _ _ e)
theorem Comp.symm {a b : Part} (h : Comp a b) : Comp b a := fun k x y hx hy => by
  obtain ⟨h1, h2⟩ := h k y x hy hx
  exact ⟨h2 ▸ h1, h2.symm⟩
theorem Comp.le {a b a' b' : Part} (h : Comp a b) (ha : Le a' a) (hb : Le b' b) : Comp a' b' := fun k x y hx hy => h k x y (ha _ _ hx) (hb _ _ hy)
theorem le_join_l (a b : Part) : Le a (jn a b) := fun k x h => by simp [jn, h]
theorem le_join_r {a b : Part} (hc : Comp a b) : Le b (jn a b) := fun k x h => by
  unfold jn
  cases ha : a k with
  | none => exact h
  | some y => exact congrArg some (hc k y x ha h).2
theorem join_le {a b h : Part} (ha : Le a h) (hb : Le b h) : Le (jn a b) h := fun k x e => by
  unfold jn at e
  cases hk : a k with
  | none => rw [hk] at e; exact hb _ _ e
  | some y => rw [hk] at e; exact ha _ _ (by rw [hk]; exact e)
theorem join_some {a b : Part} {k : Option Nat} {x : Bool × Cel} (e : jn a b k = some x) : a k = some x ∨ b k = some x := by
  unfold jn at e
  cases hk : a k with
  | none => rw [hk] at e; exact .inr e
  | some y => rw [hk] at e; exact .inl e
theorem comp_join {a b c : Part} (h1 : Comp a b) (h2 : Comp a c) : Comp a (jn b c) := fun k x y hx hy => by
  rcases join_some hy with h | h
  · exact h1 k x y hx h
  · exact h2 k x y hx h

theorem Star.le {L : List HP} {h h' : Part} (hs : Star L h) (hl : Le h h') : Star L h' := by
  cases L with
  | nil => trivial
  | cons A L => obtain ⟨a, b, c, d, e, f, g⟩ := hs; exact ⟨a, b, c, d.trans hl, e.trans hl, f, g⟩

theorem Star.swap {A B : HP} {L : List HP} {h : Part} (hs : Star (A :: B :: L) h) : Star (B :: A :: L) h := by
  obtain ⟨ha, h2, c1, l1, l2, pa, hb, hl, c2, l3, l4, pb, ps⟩ := hs
  have cal : Comp ha hl := c1.le (Le.refl _) l4
  refine ⟨hb, jn ha hl, comp_join (c1.le (Le.refl _) l3).symm c2, l3.trans l2, join_le l1 (l4.trans l2), pb, ha, hl, cal, le_join_l _ _, le_join_r cal, pa, ps⟩

theorem Star.perm {L L' : List HP} (p : L.Perm L') : ∀ {h : Part}, Star L h → Star L' h := by
  induction p with
  | nil => exact fun h => h
  | cons A _ ih => rintro h ⟨a, b, c, d, e, f, g⟩; exact ⟨a, b, c, d, e, f, ih g⟩
  | swap A B L => exact fun h => h.swap
  | trans _ _ i1 i2 => exact fun h => i2 (i1 h)

theorem Star.tail {A : HP} {L : List HP} {h : Part} (hs : Star (A :: L) h) : Star L h := by
  obtain ⟨_, b, _, _, e, _, g⟩ := hs; exact g.le e

theorem Star.sub {L L' : List HP} (p : L'.Sublist L) : ∀ {h : Part}, Star L h → Star L' h := by
  induction p with
  | slnil => exact fun h => h
  | cons A _ ih => exact fun h => ih h.tail
  | cons_cons A _ ih => rintro h ⟨a, b, c, d, e, f, g⟩; exact ⟨a, b, c, d, e, f, ih g⟩

/-- Two lists side by side. -/
theorem star_append {L1 L2 : List HP} : ∀ {h : Part}, Star (L1 ++ L2) h ↔ ∃ h1 h2, Comp h1 h2 ∧ Le h1 h ∧ Le h2 h ∧ Star L1 h1 ∧ Star L2 h2 := by
  induction L1 with
  | nil =>
    intro h
    exact ⟨fun hs => ⟨fun _ => none, h, fun k x y hx => by simp at hx, fun k x hx => by simp at hx, Le.refl _, trivial, hs⟩, fun ⟨_, _, _, _, l, _, s⟩ => Star.le s l⟩
  | cons A L1 ih =>
    intro h
    constructor
    · rintro ⟨ha, h2, c, l1, l2, pa, hs⟩
      obtain ⟨hb, hc, c2, l3, l4, s1, s2⟩ := ih.1 hs
      refine ⟨jn ha hb, hc, (comp_join (c.le (Le.refl _) l4).symm c2.symm).symm, join_le l1 (l3.trans l2), l4.trans l2, ⟨ha, hb, c.le (Le.refl _) l3, le_join_l _ _, le_join_r (c.le (Le.refl _) l3), pa, s1⟩, s2⟩
    · rintro ⟨h1, h2, c, l1, l2, ⟨ha, hb, c2, l3, l4, pa, s1⟩, s2⟩
      have cb : Comp hb h2 := c.le l4 (Le.refl _)
      refine ⟨ha, jn hb h2, comp_join c2 (c.le l3 (Le.refl _)), l3.trans l1, join_le (l4.trans l1) l2, pa, ?_⟩
      exact ih.2 ⟨hb, h2, cb, le_join_l _ _, le_join_r cb, s1, s2⟩

/-- What a world holds. -/
def Sat (w : World) (L : List HP) : Prop := ∃ h, Star L h ∧ ∀ b x, h b = some x → at_ w b = some x.2

theorem Sat.perm {w : World} {L L' : List HP} (h : Sat w L) (p : L.Perm L') : Sat w L' := let ⟨k, s, e⟩ := h; ⟨k, s.perm p, e⟩
theorem Sat.sub {w : World} {L L' : List HP} (h : Sat w L) (p : L'.Sublist L) : Sat w L' := let ⟨k, s, e⟩ := h; ⟨k, s.sub p, e⟩
theorem Sat.tail {w : World} {A : HP} {L : List HP} (h : Sat w (A :: L)) : Sat w L := let ⟨k, s, e⟩ := h; ⟨k, s.tail, e⟩
theorem Sat.swap {w : World} {A B : HP} {L : List HP} (h : Sat w (A :: B :: L)) : Sat w (B :: A :: L) := let ⟨k, s, e⟩ := h; ⟨k, s.swap, e⟩

/-- The heads, joined to one assertion (for frames). -/
theorem Sat.fold {w : World} {L1 L2 : List HP} : Sat w (L1 ++ L2) ↔ Sat w (Star L1 :: L2) := by
  constructor
  · rintro ⟨h, s, e⟩; obtain ⟨h1, h2, c, l1, l2, s1, s2⟩ := star_append.1 s; exact ⟨h, ⟨h1, h2, c, l1, l2, s1, s2⟩, e⟩
  · rintro ⟨h, ⟨h1, h2, c, l1, l2, s1, s2⟩, e⟩; exact ⟨h, star_append.2 ⟨h1, h2, c, l1, l2, s1, s2⟩, e⟩

/-- An assertion turned into another that follows from it. -/
theorem Sat.conv {w : World} {A B : HP} {L : List HP} (h : Sat w (A :: L)) (hab : ∀ k, A k → B k) : Sat w (B :: L) := by
  obtain ⟨k, ⟨a, b, c, d, e, f, g⟩, m⟩ := h; exact ⟨k, ⟨a, b, c, d, e, hab _ f, g⟩, m⟩
/-- What an assertion says besides. -/
theorem Sat.out {w : World} {A : HP} {L : List HP} {φ : Prop} (h : Sat w (A :: L)) (hab : ∀ k, A k → φ) : φ := by
  obtain ⟨k, ⟨a, b, c, d, e, f, g⟩, m⟩ := h; exact hab _ f
theorem Sat.outE {w : World} {A : HP} {L : List HP} {α : Sort _} {B : α → HP} (h : Sat w (A :: L)) (hab : ∀ k, A k → ∃ x, B x k) : ∃ x, Sat w (B x :: L) := by
  obtain ⟨k, ⟨a, b, c, d, e, f, g⟩, m⟩ := h
  obtain ⟨x, hx⟩ := hab _ f
  exact ⟨x, k, ⟨a, b, c, d, e, hx, g⟩, m⟩
/-- One assertion as several. -/
theorem Sat.split {w : World} {A : HP} {M L : List HP} (h : Sat w (A :: L)) (hab : ∀ k, A k → Star M k) : Sat w (M ++ L) :=
  Sat.fold.2 (h.conv hab)
theorem Sat.join {w : World} {A : HP} {M L : List HP} (h : Sat w (M ++ L)) (hab : ∀ k, Star M k → A k) : Sat w (A :: L) :=
  (Sat.fold.1 h).conv hab

/-- What asks nothing. -/
theorem Sat.add {w : World} {A : HP} {L : List HP} (h : Sat w L) (hA : A (fun _ => none)) : Sat w (A :: L) := by
  obtain ⟨k, s, m⟩ := h
  exact ⟨k, ⟨fun _ => none, k, fun _ _ _ hx => (by cases hx), fun _ _ hx => (by cases hx), Le.refl _, hA, s⟩, m⟩

/-! ### Blocks -/
def pt (b : Nat) (o : Obj) : HP := fun h => h (some b) = some (false, .obj o)
def ro (b : Nat) (o : Obj) : HP := fun h => h (some b) = some (true, .obj o)

theorem at_obj {w : World} {b : Nat} {o : Obj} (h : at_ w (some b) = some (.obj o)) : w.heap[b]? = some o := by
  simp only [at_, Option.map_eq_some_iff] at h
  obtain ⟨o', h1, h2⟩ := h
  cases h2
  exact h1
theorem Sat.pt_heap {w : World} {b : Nat} {o : Obj} {L : List HP} (h : Sat w (pt b o :: L)) : w.heap[b]? = some o := by
  obtain ⟨k, ⟨a, _, _, d, _, f, _⟩, m⟩ := h; exact at_obj (m _ _ (d _ _ f))
theorem Sat.ro_heap {w : World} {b : Nat} {o : Obj} {L : List HP} (h : Sat w (ro b o :: L)) : w.heap[b]? = some o := by
  obtain ⟨k, ⟨a, _, _, d, _, f, _⟩, m⟩ := h; exact at_obj (m _ _ (d _ _ f))

/-- An assertion that speaks of frozen blocks alone. -/
def Pers (A : HP) : Prop := ∀ h, A h → A (ice h)
/-- An assertion that holds of more, too. -/
def Up (A : HP) : Prop := ∀ h h', Le h h' → A h → A h'
theorem ice_le (h : Part) : Le (ice h) h := fun b x e => by
  unfold ice at e
  split at e
  · rename_i o ho; rw [ho]; exact e
  · cases e
theorem ice_comp (h : Part) : Comp (ice h) h := fun b x y e k => by
  have := ice_le h b x e
  have hxy : y = x := Option.some.inj (k.symm.trans this)
  subst hxy
  unfold ice at e
  rw [k] at e
  obtain ⟨f, o⟩ := y
  cases f
  · cases e
  · exact ⟨rfl, rfl⟩
theorem ice_ice {h : Part} {b : Option Nat} {o : Cel} (e : h b = some (true, o)) : ice h b = some (true, o) := by simp [ice, e]

theorem Sat.dup {w : World} {A : HP} {L : List HP} (h : Sat w (A :: L)) (hp : Pers A) : Sat w (A :: A :: L) := by
  obtain ⟨k, ⟨a, b, c, d, e, f, g⟩, m⟩ := h
  refine ⟨k, ⟨ice a, jn a b, ?_, (ice_le a).trans d, join_le d e, hp _ f, a, b, c, le_join_l _ _, le_join_r c, f, g⟩, m⟩
  exact comp_join (ice_comp a) (c.le (ice_le a) (Le.refl _))

theorem pers_ro (b : Nat) (o : Obj) : Pers (ro b o) := fun _ e => ice_ice e

/-! ### Steps of the heap -/
def setObj (w : World) (b : Nat) (o : Obj) : World := { w with heap := w.heap.setIfInBounds b o }
def upd (h : Part) (b : Option Nat) (x : Bool × Cel) : Part := fun k => if k = b then some x else h k

theorem Sat.set {w : World} {b : Nat} {o : Obj} {L : List HP} (h : Sat w (pt b o :: L)) (o' : Obj) (fr : Bool) : Sat (setObj w b o') ((if fr then ro b o' else pt b o') :: L) := by
  have hb := h.pt_heap
  obtain ⟨k, ⟨a, l, c, d, e, f, g⟩, m⟩ := h
  have hl : l (some b) = none := by
    cases hlb : l (some b) with
    | none => rfl
    | some y => have := (c _ _ y f hlb).1; cases this
  refine ⟨upd l (some b) (fr, .obj o'), ⟨fun k => if k = some b then some (fr, .obj o') else none, l, ?_, ?_, ?_, ?_, g⟩, ?_⟩
  · intro k x y hx hy
    by_cases hk : k = some b
    · subst hk; rw [hl] at hy; cases hy
    · simp [hk] at hx
  · intro k x hx
    by_cases hk : k = some b
    · simpa [upd, hk] using hx
    · simp [hk] at hx
  · intro k x hx
    by_cases hk : k = some b
    · subst hk; rw [hl] at hx; cases hx
    · simpa [upd, hk] using hx
  · cases fr <;> simp [pt, ro]
  · intro k x hx
    unfold upd at hx
    by_cases hk : k = some b
    · subst hk
      simp at hx
      subst hx
      have := Array.getElem?_eq_some_iff.1 hb
      simp [at_, setObj, this.1]
    · simp only [hk, if_false] at hx
      have := m k x (e _ _ hx)
      cases k with
      | none => simpa [at_, setObj] using this
      | some j =>
        have hj : ¬ b = j := fun e => hk (by rw [e])
        simpa [at_, setObj, Array.getElem?_setIfInBounds, hj] using this

theorem Sat.set_pt {w : World} {b : Nat} {o : Obj} {L : List HP} (h : Sat w (pt b o :: L)) (o' : Obj) : Sat (setObj w b o') (pt b o' :: L) := h.set o' false

theorem setObj_same {w : World} {b : Nat} {o : Obj} (hb : w.heap[b]? = some o) : setObj w b o = w := by
  unfold setObj
  have h2 := Array.getElem?_eq_some_iff.1 hb
  have : w.heap.setIfInBounds b o = w.heap := by
    apply Array.ext_getElem?
    intro i
    by_cases hi : i = b
    · subst hi; simp [h2.1, h2.2]
    · simp [Ne.symm hi]
  rw [this]
/-- Freezing a block is no step of the world's. -/
theorem Sat.freeze {w : World} {b : Nat} {o : Obj} {L : List HP} (h : Sat w (pt b o :: L)) : Sat w (ro b o :: L) := by
  have := h.set o true
  rw [setObj_same h.pt_heap] at this
  simpa using this

theorem Sat.new {w : World} {L : List HP} (h : Sat w L) (o : Obj) : Sat { w with heap := w.heap.push o } (pt w.heap.size o :: L) := by
  obtain ⟨k, s, m⟩ := h
  have hk : k (some w.heap.size) = none := by
    cases hh : k (some w.heap.size) with
    | none => rfl
    | some y => have := m _ _ hh; simp [at_] at this
  refine ⟨upd k (some w.heap.size) (false, .obj o), ⟨fun j => if j = some w.heap.size then some (false, .obj o) else none, k, ?_, ?_, ?_, ?_, s⟩, ?_⟩
  · intro j x y hx hy
    by_cases hj : j = some w.heap.size
    · subst hj; rw [hk] at hy; cases hy
    · simp [hj] at hx
  · intro j x hx
    by_cases hj : j = some w.heap.size
    · simpa [upd, hj] using hx
    · simp [hj] at hx
  · intro j x hx
    by_cases hj : j = some w.heap.size
    · subst hj; rw [hk] at hx; cases hx
    · simpa [upd, hj] using hx
  · simp [pt]
  · intro j x hx
    unfold upd at hx
    by_cases hj : j = some w.heap.size
    · subst hj; simp at hx; subst hx; simp [at_]
    · simp only [hj, if_false] at hx
      have := m j x hx
      cases j with
      | none => simpa [at_] using this
      | some i =>
        simp only [at_, Option.map_eq_some_iff] at this ⊢
        obtain ⟨o', h1, h2⟩ := this
        have h3 := Array.getElem?_eq_some_iff.1 h1
        obtain ⟨h4, _⟩ := h3
        have h5 : ¬ i = w.heap.size := by omega
        exact ⟨o', by simp [Array.getElem?_push, h5, h1], h2⟩

/-- A world with more blocks, and one block turned. -/
theorem Sat.grown {w w' : World} {b : Nat} {o o' : Obj} {L : List HP} (h : Sat w (pt b o :: L)) (ho : w'.os = w.os) (ht : w'.tape = w.tape) (hp : w'.output = w.output)
    (hk : ∀ k, k < w.heap.size → k ≠ b → w'.heap[k]? = w.heap[k]?) (hb' : w'.heap[b]? = some o') : Sat w' (pt b o' :: L) := by
  have hs := h.set_pt o'
  have hb := h.pt_heap
  obtain ⟨k, s, m⟩ := hs
  refine ⟨k, s, fun j x hx => ?_⟩
  have := m j x hx
  cases j with
  | none => simpa [at_, setObj, ho, ht, hp] using this
  | some i =>
    simp only [at_, Option.map_eq_some_iff] at this ⊢
    obtain ⟨u, h1, h2⟩ := this
    refine ⟨u, ?_, h2⟩
    by_cases hi : i = b
    · subst hi
      have := Array.getElem?_eq_some_iff.1 hb
      simp [setObj, this.1] at h1
      rw [hb', h1]
    · simp [setObj, Ne.symm hi] at h1
      have h3 := Array.getElem?_eq_some_iff.1 h1
      rw [hk i h3.1 hi, h1]
/-- A world with more blocks. -/
theorem Sat.more {w w' : World} {L : List HP} (h : Sat w L) (ho : w'.os = w.os) (ht : w'.tape = w.tape) (hp : w'.output = w.output)
    (hk : ∀ k, k < w.heap.size → w'.heap[k]? = w.heap[k]?) : Sat w' L := by
  obtain ⟨k, s, m⟩ := h
  refine ⟨k, s, fun j x hx => ?_⟩
  have := m j x hx
  cases j with
  | none => simpa [at_, ho, ht, hp] using this
  | some i =>
    simp only [at_, Option.map_eq_some_iff] at this ⊢
    obtain ⟨u, h1, h2⟩ := this
    have h3 := Array.getElem?_eq_some_iff.1 h1
    exact ⟨u, by rw [hk i h3.1, h1], h2⟩
/-- .. of which one is new, at a known place beyond the old ones. -/
theorem Sat.more_new {w w' : World} {b : Nat} {o : Obj} {L : List HP} (h : Sat w L) (ho : w'.os = w.os) (ht : w'.tape = w.tape) (hp : w'.output = w.output)
    (hk : ∀ k, k < w.heap.size → w'.heap[k]? = w.heap[k]?) (hb : w.heap.size ≤ b) (hb' : w'.heap[b]? = some o) : Sat w' (pt b o :: L) := by
  obtain ⟨k, s, m⟩ := h
  have hkb : k (some b) = none := by
    cases hh : k (some b) with
    | none => rfl
    | some y =>
      have := m _ _ hh
      simp only [at_, Option.map_eq_some_iff] at this
      obtain ⟨u, h1, _⟩ := this
      have := (Array.getElem?_eq_some_iff.1 h1).1
      omega
  refine ⟨upd k (some b) (false, .obj o), ⟨fun j => if j = some b then some (false, .obj o) else none, k, ?_, ?_, ?_, ?_, s⟩, ?_⟩
  · intro j x y hx hy
    by_cases hj : j = some b
    · subst hj; rw [hkb] at hy; cases hy
    · simp [hj] at hx
  · intro j x hx
    by_cases hj : j = some b
    · simpa [upd, hj] using hx
    · simp [hj] at hx
  · intro j x hx
    by_cases hj : j = some b
    · subst hj; rw [hkb] at hx; cases hx
    · simpa [upd, hj] using hx
  · simp [pt]
  · intro j x hx
    unfold upd at hx
    by_cases hj : j = some b
    · subst hj; simp at hx; subst hx; simp [at_, hb']
    · simp only [hj, if_false] at hx
      have := m j x hx
      cases j with
      | none => simpa [at_, ho, ht, hp] using this
      | some i =>
        simp only [at_, Option.map_eq_some_iff] at this ⊢
        obtain ⟨u, h1, h2⟩ := this
        have h3 := Array.getElem?_eq_some_iff.1 h1
        exact ⟨u, by rw [hk i h3.1, h1], h2⟩

/-- A world's other parts do not matter, but these three. -/
theorem Sat.world {w w' : World} {L : List HP} (h : Sat w L) (e : w'.heap = w.heap) (ho : w'.os = w.os := by rfl) (ht : w'.tape = w.tape := by rfl) (hp : w'.output = w.output := by rfl) : Sat w' L :=
  h.more ho ht hp fun k _ => by rw [e]

/-- All that lay there when a law's call began, frozen. -/
def Base (w0 : World) : HP := fun h => (∀ b o, w0.heap[b]? = some o → h (some b) = some (true, .obj o)) ∧ h none = some (true, .stat w0.os w0.tape w0.output)
theorem sat_base (w : World) : Sat w [Base w] := by
  refine ⟨fun b => (at_ w b).map fun o => (true, o), ⟨_, fun _ => none, ?_, Le.refl _, ?_, ⟨fun b o h => by simp [at_, h], by simp [at_]⟩, trivial⟩, fun b x hx => ?_⟩
  · intro b x y _ hy; cases hy
  · intro b x hx; cases hx
  · simp only [Option.map_eq_some_iff] at hx
    obtain ⟨o, h1, rfl⟩ := hx
    exact h1
theorem pers_base (w : World) : Pers (Base w) := fun _ h => ⟨fun b o e => ice_ice (h.1 b o e), ice_ice h.2⟩
theorem Sat.base {w w0 : World} {L : List HP} (h : Sat w (Base w0 :: L)) : (∀ (b : Nat) (o : Obj), w0.heap[b]? = some o → w.heap[b]? = some o) ∧ w.os = w0.os ∧ w.tape = w0.tape ∧ w.output = w0.output := by
  obtain ⟨k, ⟨a, l, c, d, e, f, g⟩, m⟩ := h
  refine ⟨fun b o hb => at_obj (m _ _ (d _ _ (f.1 b o hb))), ?_⟩
  have := m _ _ (d _ _ f.2)
  simp only [at_, Option.some.injEq] at this
  injection this with h1 h2 h3
  exact ⟨h1, h2, h3⟩
theorem ro_of_base {w0 : World} {b : Nat} {o : Obj} (hb : w0.heap[b]? = some o) : ∀ h, Base w0 h → ro b o h := fun _ h => h.1 b o hb

end Go.Sp

/- Judgements on code, over lists of assertions: what of a frame is known is a list of slots and values. The rules of control flow; calls; a function's contract from its body. -/
namespace Go.Sp

abbrev Env := List (Nat × Value)
def Env.get : Env → Nat → Option Value
  | [], _ => none
  | (k, v) :: E, t => match Nat.beq k t with | true => some v | false => Env.get E t
def ev (E : Env) : Operand → Option Value
  | .tmp t => Env.get E t
  | .const v => some v
  | .global g => some (.pointer (some ⟨g, 0, none⟩))
  | .func f => some (.func (.func f) #[] #[])
def evs (E : Env) : List Operand → Option (List Value)
  | [] => some []
  | x :: l => match ev E x, evs E l with | some v, some vs => some (v :: vs) | _, _ => none
def put (E : Env) (d : Option Nat) (v : Value) : Env := match d with | some k => (k, v) :: E | none => E
def dok (N : Nat) (d : Option Nat) : Bool := match d with | some k => Nat.blt k N | none => true

def Rep (N : Nat) (E : Env) (D : List Deferred) (a : Act) : Prop := a.tmps.size = N ∧ a.defers = D ∧ ∀ t v, Env.get E t = some v → a.tmps[t]? = some v

theorem beq_false {k t : Nat} (h : ¬ k = t) : Nat.beq k t = false := by
  cases hb : Nat.beq k t with
  | false => rfl
  | true => exact absurd (Nat.eq_of_beq_eq_true hb) h
theorem get_cons (k : Nat) (v : Value) (E : Env) (t : Nat) : Env.get ((k, v) :: E) t = if k = t then some v else Env.get E t := by
  simp only [Env.get]
  by_cases h : k = t
  · subst h; simp
  · have : Nat.beq k t = false := beq_false h
    simp [this, h]

theorem Rep.eval {N : Nat} {E : Env} {D : List Deferred} {a : Act} {x : Operand} {v : Value} (h : Rep N E D a) (hx : ev E x = some v) : a.eval x = v := by
  cases x with
  | tmp t => have := h.2.2 t v hx; simp [Act.eval, this]
  | const u => simpa [ev, Act.eval] using hx
  | global g => simpa [ev, Act.eval] using hx
  | func f => simpa [ev, Act.eval] using hx

theorem Rep.evals {N : Nat} {E : Env} {D : List Deferred} {a : Act} (h : Rep N E D a) : ∀ {l : List Operand} {vs : List Value}, evs E l = some vs → l.map a.eval = vs := by
  intro l
  induction l with
  | nil => intro vs e; simp [evs] at e; simp [e]
  | cons x l ih =>
    intro vs e
    simp only [evs] at e
    split at e
    · rename_i v us h1 h2
      cases e
      simp [h.eval h1, ih h2]
    · cases e

theorem Rep.put {N : Nat} {E : Env} {D : List Deferred} {a : Act} {d : Option Nat} (h : Rep N E D a) (hd : dok N d = true) (v : Value) : Rep N (Sp.put E d v) D (a.put d v) := by
  cases d with
  | none => exact h
  | some k =>
    have hk : k < N := by simpa [dok] using hd
    refine ⟨by simp [Act.put, h.1], by simp [Act.put, h.2.1], fun t u e => ?_⟩
    simp only [Sp.put, get_cons] at e
    by_cases ht : k = t
    · subst ht
      simp at e
      subst e
      simp [Act.put, h.1, hk]
    · simp only [ht, if_false] at e
      simp [Act.put, ht, h.2.2 t u e]

/-- All that E' says, E says. -/
def Sub (E' E : Env) : Prop := ∀ t v, Env.get E' t = some v → Env.get E t = some v
theorem Rep.sub {N : Nat} {E E' : Env} {D : List Deferred} {a : Act} (h : Rep N E D a) (hs : Sub E' E) : Rep N E' D a := ⟨h.1, h.2.1, fun t v e => h.2.2 t v (hs t v e)⟩
theorem Sub.refl (E : Env) : Sub E E := fun _ _ e => e
theorem sub_nil (E : Env) : Sub [] E := fun _ _ e => by simp [Env.get] at e
theorem sub_cons {k : Nat} {v : Value} {E' E : Env} (h : Env.get E k = some v) (hs : Sub E' E) : Sub ((k, v) :: E') E := fun t u e => by
  rw [get_cons] at e
  by_cases hk : k = t
  · subst hk; simp at e; subst e; exact h
  · simp only [hk, if_false] at e; exact hs t u e

def FW (rd : Option Nat) : Fence := { Fence.wide with round := rd }

abbrev Post := Exit → Env → List Deferred → List HP → Prop

def lift (N : Nat) (F : HP) (Q : Post) : Exit → Act → World → Prop := fun e a w => ∃ E D L, Q e E D L ∧ Rep N E D a ∧ Sat w (F :: L)

section
variable (P : Program) (N : Nat) (rd : Option Nat)

/-- Code, from a frame of which E is known, with the deferred calls D, and a world that holds L: it is left so that Q. -/
def J (c : Code) (E : Env) (D : List Deferred) (L : List HP) (Q : Post) : Prop :=
  ∀ (F : HP) (a : Act) (w : World), Rep N E D a → Sat w (F :: L) → c.wpIn (FW rd) 0 P (lift N F Q) a w

/-- A region's operations from the i-th one on (which are rest). -/
def JL (all : Array Oper) (i : Nat) (rest : List Oper) (E : Env) (D : List Deferred) (L : List HP) (Q : Post) : Prop :=
  ∀ (F : HP) (a : Act) (w : World), Rep N E D a → Sat w (F :: L) → all.toList.drop i = rest → wpOpsIn (FW rd) 0 P all (lift N F Q) (List.range' i rest.length) a w

/-- One operation. -/
def JO (o : Oper) (E : Env) (D : List Deferred) (L : List HP) (next : Env → List Deferred → List HP → Prop) (Q : Post) : Prop :=
  ∀ (F : HP) (a : Act) (w : World), Rep N E D a → Sat w (F :: L) → ∀ nx : Act → World → Prop, (∀ E' D' L' a' w', next E' D' L' → Rep N E' D' a' → Sat w' (F :: L') → nx a' w') →
    o.wpIn (FW rd) 0 P a w nx (lift N F Q)

/-- A function's contract. -/
def Ct (f : FuncId) (args : Array Value) (L : List HP) (R : Ending → List HP → Prop) : Prop :=
  ∀ (F : HP) (w : World), Sat w (F :: L) → Calls P f args w fun e w' => e ≠ .outgrown ∧ ∃ L', R e L' ∧ Sat w' (F :: L')
end

section
variable {P : Program} {N : Nat} {rd : Option Nat} {E : Env} {D : List Deferred} {L : List HP} {Q : Post}

def thn (K : Env → List Deferred → List HP → Prop) (Q : Post) : Post
  | .normal, E, D, L => K E D L
  | e, E, D, L => Q e E D L
def inB (id : Nat) (Q : Post) : Post
  | .exit k, E, D, L => match Nat.beq k id with | true => Q .normal E D L | false => Q (.exit k) E D L
  | e, E, D, L => Q e E D L

theorem J_mono {c : Code} {Q' : Post} (h : J P N rd c E D L Q) (hq : ∀ e E D L, Q e E D L → Q' e E D L) : J P N rd c E D L Q' :=
  fun F a w hr hs => wpIn_mono (h F a w hr hs) fun _ _ _ ⟨E, D, L, q, r, s⟩ => ⟨E, D, L, hq _ _ _ _ q, r, s⟩

theorem J_skip (h : Q .normal E D L) : J P N rd .skip E D L Q := fun _ _ _ hr hs => wpIn_skip ⟨E, D, L, h, hr, hs⟩
theorem J_label {l : Nat} (h : Q .normal E D L) : J P N rd (.label l) E D L Q := fun _ _ _ hr hs => wpIn_label ⟨E, D, L, h, hr, hs⟩
theorem J_exit {id : Nat} (h : Q (.exit id) E D L) : J P N rd (.exit id) E D L Q := fun _ _ _ hr hs => wpIn_exit ⟨E, D, L, h, hr, hs⟩
theorem J_goto {id : Nat} (h : Q (.goto id) E D L) : J P N rd (.goto id) E D L Q := fun _ _ _ hr hs => wpIn_goto ⟨E, D, L, h, hr, hs⟩
theorem J_ret (h : Q .ret E D L) : J P N rd .ret E D L Q := fun _ _ _ hr hs => wpIn_ret ⟨E, D, L, h, hr, hs⟩

theorem J_seq {x y : Code} (h : J P N rd x E D L (thn (fun E D L => J P N rd y E D L Q) Q)) : J P N rd (.seq x y) E D L Q := by
  intro F a w hr hs
  refine wpIn_seq (wpIn_mono (h F a w hr hs) ?_)
  rintro e a w ⟨E, D, L, q, r, s⟩
  cases e with
  | normal => exact q F a w r s
  | exit id => exact ⟨E, D, L, q, r, s⟩
  | goto l => exact ⟨E, D, L, q, r, s⟩
  | ret => exact ⟨E, D, L, q, r, s⟩
  | panic ch => exact ⟨E, D, L, q, r, s⟩
  | outgrown => exact ⟨E, D, L, q, r, s⟩

theorem J_cond {c : Operand} {x y : Code} {b : Bool} (hc : ev E c = some (.bool b)) (ht : b = true → J P N rd x E D L Q) (hf : b = false → J P N rd y E D L Q) :
    J P N rd (.cond c x y) E D L Q := fun F a w hr hs => wpIn_cond_split (hr.eval hc) (fun h => ht h F a w hr hs) (fun h => hf h F a w hr hs)
theorem J_condP {c : Operand} {x y : Code} {p : Prop} {_ : Decidable p} (hc : ev E c = some (.bool (decide p))) (ht : p → J P N rd x E D L Q) (hf : ¬ p → J P N rd y E D L Q) :
    J P N rd (.cond c x y) E D L Q := J_cond hc (fun h => ht (of_decide_eq_true h)) (fun h => hf (of_decide_eq_false h))
theorem J_condT {c : Operand} {x y : Code} (hc : ev E c = some (.bool true)) (ht : J P N rd x E D L Q) : J P N rd (.cond c x y) E D L Q := J_cond hc (fun _ => ht) (fun h => by cases h)
theorem J_condF {c : Operand} {x y : Code} (hc : ev E c = some (.bool false)) (ht : J P N rd y E D L Q) : J P N rd (.cond c x y) E D L Q := J_cond hc (fun h => by cases h) (fun _ => ht)

theorem J_block {id : Nat} {c : Code} (h : J P N rd c E D L (inB id Q)) : J P N rd (.block id c) E D L Q := by
  intro F a w hr hs
  refine wpIn_block (wpIn_mono (h F a w hr hs) ?_)
  rintro e a w ⟨E, D, L, q, r, s⟩
  cases e with
  | exit k =>
    simp only [inB] at q
    simp only [Exit.inBlock]
    by_cases hk : k = id
    · subst hk; simp at q; simpa using ⟨E, D, L, q, r, s⟩
    · have : Nat.beq k id = false := beq_false hk
      rw [this] at q
      simpa [hk] using ⟨E, D, L, q, r, s⟩
  | normal => exact ⟨E, D, L, q, r, s⟩
  | goto l => exact ⟨E, D, L, q, r, s⟩
  | ret => exact ⟨E, D, L, q, r, s⟩
  | panic ch => exact ⟨E, D, L, q, r, s⟩
  | outgrown => exact ⟨E, D, L, q, r, s⟩

/-- A loop: states, each with what is known of the frame and of the world; a measure of the states that each round lowers. -/
theorem J_loop {β : Type} {c : Code} (IE : β → Env) (ID : β → List Deferred) (IL : β → List HP) (μ : β → Nat) (x0 : β) (hE : Sub (IE x0) E) (hD : ID x0 = D)
    (hL : ∀ (F : HP) (w : World), Sat w (F :: L) → Sat w (F :: IL x0))
    (round : ∀ x, J P N rd c (IE x) (ID x) (IL x) (thn (fun E' D' L' => ∃ y, μ y < μ x ∧ Sub (IE y) E' ∧ ID y = D' ∧ ∀ (F : HP) (w : World), Sat w (F :: L') → Sat w (F :: IL y)) Q)) :
    J P N rd (.loop c) E D L Q := by
  intro F a w hr hs
  have key : ∀ (n : Nat) (x : β) (a : Act) (w : World), μ x = n → Rep N (IE x) (ID x) a → Sat w (F :: IL x) →
      ∀ (b : Frame) (k : List Item) (cs : List Frame), b.roundOf = (FW rd).round → (FW rd).fn b.fn → (FW rd).room (cs.length + 1 + 0) →
      ∃ e a' w', lift N F Q e a' w' ∧ ArrivesIn (Machine.fenced P (FW rd)) P (lone (b.atR a (.code c :: .inLoop c :: k)) cs w) b k cs e a' w' := by
    intro n
    induction n using Nat.strongRecOn with
    | _ n ih =>
      intro x a w hn hr hs b k cs hro hb hroom
      obtain ⟨e, a₁, w₁, ⟨E', D', L', q, r, s⟩, harr⟩ := round x F a w hr hs b (.inLoop c :: k) cs hro hb hroom
      cases e with
      | normal =>
        obtain ⟨y, hlt, hsub, rfl, hL'⟩ := q
        obtain ⟨e₂, a₂, w₂, hq₂, harr₂⟩ := ih (μ y) (hn ▸ hlt) y a₁ w₁ rfl (r.sub hsub) (hL' F w₁ s) b k cs hro hb hroom
        exact ⟨e₂, a₂, w₂, hq₂, .of_steps (StepsIn.trans harr (.one (fenced_calm hb hroom rfl) stepR_inLoop)) harr₂⟩
      | exit id => exact ⟨_, a₁, w₁, ⟨E', D', L', q, r, s⟩, .pass (x := .inLoop c) rfl (fun _ _ => .inl (by simp)) harr⟩
      | goto l => exact ⟨_, a₁, w₁, ⟨E', D', L', q, r, s⟩, .pass (x := .inLoop c) rfl (fun _ _ => .inl (by simp)) harr⟩
      | ret => exact ⟨_, a₁, w₁, ⟨E', D', L', q, r, s⟩, .pass (x := .inLoop c) rfl (fun _ _ => .inl (by simp)) harr⟩
      | panic ch => exact ⟨_, a₁, w₁, ⟨E', D', L', q, r, s⟩, .pass (x := .inLoop c) rfl (fun _ _ => .inl (by simp)) harr⟩
      | outgrown => exact ⟨_, a₁, w₁, ⟨E', D', L', q, r, s⟩, .pass (x := .inLoop c) rfl (fun _ _ => .inl (by simp)) harr⟩
  intro b k cs hro hb hroom
  obtain ⟨e, a', w', hq, harr⟩ := key _ x0 a w rfl ⟨hr.1, hD ▸ hr.2.1, (hr.sub hE).2.2⟩ (hL F w hs) b k cs hro hb hroom
  exact ⟨e, a', w', hq, .of_steps (.one (fenced_calm hb hroom rfl) stepR_loop) harr⟩

/-! ### What is known, turned -/
theorem J_heap {c : Code} {L' : List HP} (hL : ∀ (F : HP) (w : World), Sat w (F :: L) → Sat w (F :: L')) (h : J P N rd c E D L' Q) : J P N rd c E D L Q := fun F a w hr hs => h F a w hr (hL F w hs)
theorem J_env {c : Code} {E' : Env} (hE : Sub E' E) (h : J P N rd c E' D L Q) : J P N rd c E D L Q := fun F a w hr hs => h F a w (hr.sub hE) hs
theorem J_fact {c : Code} {φ : Prop} (hL : ∀ (F : HP) (w : World), Sat w (F :: L) → φ) (h : φ → J P N rd c E D L Q) : J P N rd c E D L Q := fun F a w hr hs => h (hL F w hs) F a w hr hs
theorem J_ex {α : Sort _} {c : Code} {L' : α → List HP} (hL : ∀ (F : HP) (w : World), Sat w (F :: L) → ∃ x, Sat w (F :: L' x)) (h : ∀ x, J P N rd c E D (L' x) Q) : J P N rd c E D L Q :=
  fun F a w hr hs => let ⟨x, hx⟩ := hL F w hs; h x F a w hr hx
theorem JL_heap {all : Array Oper} {i : Nat} {rest : List Oper} {L' : List HP} (hL : ∀ (F : HP) (w : World), Sat w (F :: L) → Sat w (F :: L')) (h : JL P N rd all i rest E D L' Q) : JL P N rd all i rest E D L Q :=
  fun F a w hr hs => h F a w hr (hL F w hs)
theorem JL_env {all : Array Oper} {i : Nat} {rest : List Oper} {E' : Env} (hE : Sub E' E) (h : JL P N rd all i rest E' D L Q) : JL P N rd all i rest E D L Q := fun F a w hr hs => h F a w (hr.sub hE) hs
theorem JL_fact {all : Array Oper} {i : Nat} {rest : List Oper} {φ : Prop} (hL : ∀ (F : HP) (w : World), Sat w (F :: L) → φ) (h : φ → JL P N rd all i rest E D L Q) : JL P N rd all i rest E D L Q :=
  fun F a w hr hs => h (hL F w hs) F a w hr hs
theorem JL_ex {α : Sort _} {all : Array Oper} {i : Nat} {rest : List Oper} {L' : α → List HP} (hL : ∀ (F : HP) (w : World), Sat w (F :: L) → ∃ x, Sat w (F :: L' x)) (h : ∀ x, JL P N rd all i rest E D (L' x) Q) :
    JL P N rd all i rest E D L Q := fun F a w hr hs => let ⟨x, hx⟩ := hL F w hs; h x F a w hr hx

/-! ### Regions -/
theorem J_region {id : Nat} {ops : Array Oper} (h : JL P N rd ops 0 ops.toList E D L Q) : J P N rd (.region id ops false) E D L Q := fun F a w hr hs => by
  refine wpIn_region ?_
  have := h F a w hr hs rfl
  rw [List.range_eq_range']
  simpa using this

theorem JL_nil {all : Array Oper} {i : Nat} (h : Q .normal E D L) : JL P N rd all i [] E D L Q := fun _ _ _ hr hs _ => ⟨E, D, L, h, hr, hs⟩

theorem drop_cons {α : Type} {l : List α} {i : Nat} {o : α} {rest : List α} (h : l.drop i = o :: rest) : l[i]? = some o ∧ l.drop (i + 1) = rest := by
  have h1 : l[i]? = some o := by
    have := congrArg (·[0]?) h
    simpa using this
  refine ⟨h1, ?_⟩
  have := congrArg List.tail h
  simpa [List.tail_drop] using this

theorem JL_step {all : Array Oper} {i : Nat} {o : Oper} {rest : List Oper} (hg : o.guard = none)
    (h : JO P N rd o E D L (fun E' D' L' => JL P N rd all (i + 1) rest E' D' L' Q) Q) : JL P N rd all i (o :: rest) E D L Q := by
  intro F a w hr hs hd
  obtain ⟨h1, h2⟩ := drop_cons hd
  simp only [List.length_cons, List.range'_succ, wpOpsIn]
  have h3 : all[i]? = some o := by simpa using h1
  simp only [h3, Region.wanted, hg, if_true]
  exact h F a w hr hs _ fun E' D' L' a' w' hn hr' hs' => hn F a' w' hr' hs' h2

/-- What the guard of an operation says. -/
def gval (all : Array Oper) (E : Env) (j : Nat) : Option Bool :=
  match all[j]? with
  | some o => match o.dst with
    | some d => match Env.get E d with | some (.bool b) => some b | _ => none
    | none => none
  | none => none
theorem yielded_of {all : Array Oper} {E : Env} {j : Nat} {b : Bool} {a : Act} (hr : Rep N E D a) (h : gval all E j = some b) : yielded all a.tmps j = some b := by
  unfold gval at h
  split at h
  · rename_i o ho
    split at h
    · rename_i d hd
      split at h
      · rename_i b' hb
        cases h
        have := hr.2.2 d _ hb
        simp [yielded, ho, hd, this]
      · cases h
    · cases h
  · cases h

theorem JL_take {all : Array Oper} {i : Nat} {o : Oper} {rest : List Oper} {j : Nat} {want : Bool} (hg : o.guard = some (j, want)) (hv : gval all E j = some want)
    (h : JO P N rd o E D L (fun E' D' L' => JL P N rd all (i + 1) rest E' D' L' Q) Q) : JL P N rd all i (o :: rest) E D L Q := by
  intro F a w hr hs hd
  obtain ⟨h1, h2⟩ := drop_cons hd
  simp only [List.length_cons, List.range'_succ, wpOpsIn]
  have h3 : all[i]? = some o := by simpa using h1
  simp only [h3, Region.wanted, hg, yielded_of hr hv, beq_self_eq_true, if_true]
  exact h F a w hr hs _ fun E' D' L' a' w' hn hr' hs' => hn F a' w' hr' hs' h2

theorem JL_pass {all : Array Oper} {i : Nat} {o : Oper} {rest : List Oper} {j : Nat} {want : Bool} (hg : o.guard = some (j, want)) (hv : gval all E j = some (!want)) (hd : dok N o.dst = true)
    (h : JL P N rd all (i + 1) rest (put E o.dst undef) D L Q) : JL P N rd all i (o :: rest) E D L Q := by
  intro F a w hr hs hdr
  obtain ⟨h1, h2⟩ := drop_cons hdr
  simp only [List.length_cons, List.range'_succ, wpOpsIn]
  have h3 : all[i]? = some o := by simpa using h1
  have h4 : (some (!want) == some want) = false := by cases want <;> rfl
  simp only [h3, Region.wanted, hg, yielded_of hr hv, h4, if_false, Bool.false_eq_true]
  exact ⟨fun f _ => trivial, h F (a.put o.dst undef) w (hr.put hd undef) hs h2⟩

theorem JO_mono {o : Oper} {next next' : Env → List Deferred → List HP → Prop} (h : JO P N rd o E D L next Q) (hn : ∀ E D L, next E D L → next' E D L) : JO P N rd o E D L next' Q :=
  fun F a w hr hs nx hx => h F a w hr hs nx fun E' D' L' a' w' q => hx E' D' L' a' w' (hn _ _ _ q)

/-- An operation that is no defer statement, by its run: a value. -/
theorem JO_value {o : Oper} {next : Env → List Deferred → List HP → Prop} (hnd : ∀ c, o.op ≠ .defer c) (hd : dok N o.dst = true)
    (h : ∀ (F : HP) (a : Act) (w : World), Rep N E D a → Sat w (F :: L) → ∃ v w' L', (execOp a.eval o).run P w = .ok (.value v) w' ∧ Sat w' (F :: L') ∧ next (put E o.dst v) D L') : JO P N rd o E D L next Q := by
  intro F a w hr hs nx hx
  obtain ⟨v, w', L', h1, h2, h3⟩ := h F a w hr hs
  refine ⟨fun _ _ => trivial, ?_⟩
  rw [Oper.semAt_eq _ _ _ hnd, h1]
  exact hx _ _ _ _ _ h3 (hr.put hd v) h2
theorem JO_unit {o : Oper} {next : Env → List Deferred → List HP → Prop} (hnd : ∀ c, o.op ≠ .defer c) (hd : dok N o.dst = true)
    (h : ∀ (F : HP) (a : Act) (w : World), Rep N E D a → Sat w (F :: L) → ∃ w' L', (execOp a.eval o).run P w = .ok .skip w' ∧ Sat w' (F :: L') ∧ next (put E o.dst undef) D L') : JO P N rd o E D L next Q := by
  intro F a w hr hs nx hx
  obtain ⟨w', L', h1, h2, h3⟩ := h F a w hr hs
  refine ⟨fun _ _ => trivial, ?_⟩
  rw [Oper.semAt_eq _ _ _ hnd, h1]
  exact hx _ _ _ _ _ h3 (hr.put hd undef) h2
/-- An operation that panics. -/
theorem JO_panics {o : Oper} {next : Env → List Deferred → List HP → Prop} (hnd : ∀ c, o.op ≠ .defer c)
    (h : ∀ (F : HP) (a : Act) (w : World), Rep N E D a → Sat w (F :: L) → ∃ v w' L', (execOp a.eval o).run P w = .halt (.panic v) w' ∧ Sat w' (F :: L') ∧ Q (.panic [{ v, recovered := false }]) E D L') : JO P N rd o E D L next Q := by
  intro F a w hr hs nx hx
  obtain ⟨v, w', L', h1, h2, h3⟩ := h F a w hr hs
  refine ⟨fun _ _ => trivial, ?_⟩
  rw [Oper.semAt_eq _ _ _ hnd, h1]
  exact ⟨E, D, L', h3, hr, h2⟩

/-! ### Calls -/
theorem fw_wide (rd : Option Nat) {n : Nat} {f : FuncId} {args : Array Value} {w : World} {R : Ending → World → Prop} (h : Calls P f args w R) : CallsIn (FW rd) n P f args w R := callsIn_wide.2 h

/-- An operation that enters a Go function, by its contract. -/
theorem JO_enter {o : Oper} {next : Env → List Deferred → List HP → Prop} {f : FuncId} {args : Array Value} {R : Ending → List HP → Prop} (hnd : ∀ c, o.op ≠ .defer c) (hd : dok N o.dst = true)
    (he : ∀ (a : Act) (w : World), Rep N E D a → (execOp a.eval o).run P w = .ok (.enter f args) w) (hc : Ct P f args L R)
    (hv : ∀ v L', R (.returned v) L' → next (put E o.dst v) D L') (hp : ∀ ch L', R (.panicked ch) L' → Q (.panic ch) E D L') : JO P N rd o E D L next Q := by
  intro F a w hr hs nx hx
  refine ⟨fun _ _ => trivial, ?_⟩
  rw [Oper.semAt_eq _ _ _ hnd, he a w hr]
  refine ⟨fun h => by simp [FW, Fence.wide] at h, fw_wide rd ?_⟩
  refine (hc F w hs).mono ?_
  rintro e w' ⟨hne, L', hR, hs'⟩
  cases e with
  | returned v => exact hx _ _ _ _ _ (hv v L' hR) (hr.put hd v) hs'
  | panicked ch => exact ⟨E, D, L', hp ch L' hR, hr, hs'⟩
  | outgrown => exact absurd rfl hne

theorem Ct.mono {f : FuncId} {args : Array Value} {R R' : Ending → List HP → Prop} (h : Ct P f args L R) (hr : ∀ e L', R e L' → R' e L') : Ct P f args L R' :=
  fun F w hs => (h F w hs).mono fun _ _ ⟨hne, L', r, s⟩ => ⟨hne, L', hr _ _ r, s⟩
/-- What is not named stays. -/
theorem Ct.frame {f : FuncId} {args : Array Value} {R : Ending → List HP → Prop} (h : Ct P f args L R) (M : List HP) : Ct P f args (L ++ M) fun e L'' => ∃ L', R e L' ∧ L'' = L' ++ M := by
  intro F w hs
  have hs' : Sat w (Star (F :: M) :: L) := by
    refine Sat.fold.1 (hs.perm ?_)
    refine List.Perm.cons F ?_
    exact List.perm_append_comm
  refine (h _ w hs').mono ?_
  rintro e w' ⟨hne, L', hR, hs2⟩
  refine ⟨hne, L' ++ M, ⟨L', hR, rfl⟩, ?_⟩
  refine (Sat.fold.2 hs2).perm ?_
  exact List.Perm.cons F List.perm_append_comm
theorem Ct.heap {f : FuncId} {args : Array Value} {R : Ending → List HP → Prop} {L' : List HP} (hL : ∀ (F : HP) (w : World), Sat w (F :: L) → Sat w (F :: L')) (h : Ct P f args L' R) : Ct P f args L R :=
  fun F w hs => h F w (hL F w hs)

/-- The frame with which a function begins. -/
def argEnv : Nat → List Value → Env
  | _, [] => []
  | i, v :: vs => (i, v) :: argEnv (i + 1) vs
theorem argEnv_get : ∀ (vs : List Value) (i t : Nat) (v : Value), Env.get (argEnv i vs) t = some v → i ≤ t ∧ vs[t - i]? = some v := by
  intro vs
  induction vs with
  | nil => intro i t v e; simp [argEnv, Env.get] at e
  | cons u vs ih =>
    intro i t v e
    simp only [argEnv, get_cons] at e
    by_cases h : i = t
    · subst h; simp at e; subst e; simp
    · simp only [h, if_false] at e
      obtain ⟨h1, h2⟩ := ih (i + 1) t v e
      refine ⟨by omega, ?_⟩
      rw [show t - i = (t - (i + 1)) + 1 from by omega]
      simpa using h2
theorem rep_args (vs : List Value) (hN : vs.length ≤ N) : Rep N (argEnv 0 vs) [] { tmps := vs.toArray ++ Array.replicate (N - vs.toArray.size) undef, defers := [] } := by
  refine ⟨by simp; omega, rfl, fun t v e => ?_⟩
  obtain ⟨_, h2⟩ := argEnv_get vs 0 t v e
  simp only [Nat.sub_zero] at h2
  have := List.getElem?_eq_some_iff.1 h2
  obtain ⟨hlt, hv⟩ := this
  simp [Array.getElem?_append, hlt, hv]

/-- What a function hands back: its results, read at its end. -/
def Res (P : Program) (N : Nat) (fn : Func) (E : Env) (L : List HP) (v : Value) : Prop :=
  ∀ (F : HP) (a : Act) (w : World) (D : List Deferred), Rep N E D a → Sat w (F :: L) → (results fn a.tmps).run P w = .ok v w

def bodyQ (P : Program) (N : Nat) (fn : Func) (R : Ending → List HP → Prop) : Post
  | .normal, E, D, L | .ret, E, D, L => D = [] ∧ ∃ v, Res P N fn E L v ∧ R (.returned v) L
  | .panic ch, _, D, L => D = [] ∧ R (.panicked ch) L
  | _, _, _, _ => False

theorem fn_body {f : FuncId} {fn : Func} {c : Code} {vs : List Value} {R : Ending → List HP → Prop} (hf : P.funcs[f]? = some fn) (hb : fn.body = some c) (hn : fn.ntmps = N) (hN : vs.length ≤ N)
    (h : J P N none c (argEnv 0 vs) [] L (bodyQ P N fn R)) : Ct P f vs.toArray L R := by
  intro F w hs
  refine (callsIn_wide (n := 0)).1 (callsIn_of_wp hf hb trivial ?_ rfl)
  have h1 := h F _ w (rep_args vs hN) hs
  rw [hn]
  refine wpIn_mono h1 ?_
  rintro e a w' ⟨E, D, L', q, r, s⟩
  cases e with
  | normal => obtain ⟨hD, v, hv, hR⟩ := q; exact ⟨r.2.1.trans hD, v, hv F a w' D r s, by simp, L', hR, s⟩
  | ret => obtain ⟨hD, v, hv, hR⟩ := q; exact ⟨r.2.1.trans hD, v, hv F a w' D r s, by simp, L', hR, s⟩
  | panic ch => obtain ⟨hD, hR⟩ := q; exact ⟨r.2.1.trans hD, by simp, L', hR, s⟩
  | exit id => exact q.elim
  | goto l => exact q.elim
  | outgrown => exact q.elim

theorem res_none {fn : Func} (h : fn.results = #[]) : Res P N fn E L (.tuple #[]) := fun _ a w _ _ _ => by simp [results, h]
theorem res_one {fn : Func} {t : Nat} {v : Value} (h : fn.results = #[.tmp t]) (hv : Env.get E t = some v) : Res P N fn E L v := fun _ a w _ hr _ => by
  have h1 : (a.tmps.getD t undef) = v := hr.eval (x := .tmp t) hv
  simp [results, h, ← h1]
theorem res_two {fn : Func} {t u : Nat} {v x : Value} (h : fn.results = #[.tmp t, .tmp u]) (hv : Env.get E t = some v) (hx : Env.get E u = some x) : Res P N fn E L (.tuple #[v, x]) := fun _ a w _ hr _ => by
  have h1 : (a.tmps.getD t undef) = v := hr.eval (x := .tmp t) hv
  have h2 : (a.tmps.getD u undef) = x := hr.eval (x := .tmp u) hx
  simp [results, h, ← h1, ← h2]
theorem res_three {fn : Func} {t u s : Nat} {v x y : Value} (h : fn.results = #[.tmp t, .tmp u, .tmp s]) (hv : Env.get E t = some v) (hx : Env.get E u = some x) (hy : Env.get E s = some y) : Res P N fn E L (.tuple #[v, x, y]) := fun _ a w _ hr _ => by
  have h1 : (a.tmps.getD t undef) = v := hr.eval (x := .tmp t) hv
  have h2 : (a.tmps.getD u undef) = x := hr.eval (x := .tmp u) hx
  have h3 : (a.tmps.getD s undef) = y := hr.eval (x := .tmp s) hy
  simp [results, h, ← h1, ← h2, ← h3]
end
end Go.Sp

/- The rules of operations: numbers, tests, variables, fields, calls. Types and functions of a program are told by instances. -/
namespace Go.Sp
open Go.RowKit

/-! ### Facts on a program, found by instances -/
class TU (P : Program) (t : TypeId) (d : outParam TypeDesc) : Prop where h : P.underlying t = some d
class TI (P : Program) (t : TypeId) (z : outParam Value) (n b : outParam Nat) : Prop where h : ∃ i, P.info? t = some i ∧ i.zero = some z ∧ i.size = n ∧ i.bytes = b
class TF (P : Program) (s f : Nat) (off ty n : outParam Nat) : Prop where h : ∃ fs g, P.underlying s = some (.struct fs) ∧ fs[f]? = some g ∧ g.offset = off ∧ g.type = ty ∧ (∃ i, P.info? ty = some i ∧ i.size = n) ∧ n ≠ 0
class CF (P : Program) (f : FuncId) : Prop where h : ∀ (args : Array Value) (w : World), (callFunc f args).run P w = .ok (.enter f args) w
/-- A type whose variables are one cell. -/
class T1 (P : Program) (t : TypeId) : Prop where h : ∃ d, P.underlying t = some d ∧ (∀ fs, d ≠ .struct fs) ∧ (∀ n e, d ≠ .array n e)
/-- A struct or an array, of n cells. -/
class TA (P : Program) (t : TypeId) (n : outParam Nat) : Prop where h : (∃ d, P.underlying t = some d ∧ ((∃ fs, d = .struct fs) ∨ ∃ k e, d = .array k e)) ∧ ∃ i, P.info? t = some i ∧ i.size = n

def fieldFact (P : Program) (s f : Nat) : Option (Nat × Nat × Nat) :=
  match P.underlying s with
  | some (.struct fs) => match fs[f]? with
    | some g => (P.info? g.type).map fun i => (g.offset, g.type, i.size)
    | none => none
  | _ => none
def isOne (P : Program) (t : TypeId) : Bool := match P.underlying t with | some (.struct _) | some (.array _ _) | none => false | some _ => true
def aggFact (P : Program) (t : TypeId) : Option Nat := match P.underlying t with | some (.struct _) | some (.array _ _) => (P.info? t).map (·.size) | _ => none
def structFields (P : Program) (t : TypeId) : Array Field := match P.underlying t with | some (.struct fs) => fs | _ => #[]
theorem TI.mk' {P : Program} {t : TypeId} {z : Value} {n b : Nat} (h : (P.info? t).map (fun i => (i.zero, i.size, i.bytes)) = some (some z, n, b)) : TI P t z n b := ⟨by
  cases hi : P.info? t with
  | none => rw [hi] at h; cases h
  | some i => rw [hi] at h; simp at h; exact ⟨i, rfl, h.1, h.2.1, h.2.2⟩⟩
theorem TF.mk' {P : Program} {s f off ty n : Nat} (h : fieldFact P s f = some (off, ty, n)) (hn : (n == 0) = false) : TF P s f off ty n := ⟨by
  unfold fieldFact at h
  split at h
  · rename_i fs hfs
    split at h
    · rename_i g hg
      cases hi : P.info? g.type with
      | none => rw [hi] at h; cases h
      | some i =>
        rw [hi] at h
        simp at h
        obtain ⟨rfl, rfl, rfl⟩ := h
        exact ⟨fs, g, hfs, hg, rfl, rfl, ⟨i, hi, rfl⟩, by simpa using hn⟩
    · cases h
  · cases h⟩
theorem T1.mk' {P : Program} {t : TypeId} (h : isOne P t = true) : T1 P t := ⟨by
  unfold isOne at h
  split at h
  · cases h
  · cases h
  · cases h
  · rename_i d h1 h2 hd
    exact ⟨d, hd, fun fs e => h1 fs e, fun n e k => h2 n e k⟩⟩
theorem TA.mk' {P : Program} {t : TypeId} {n : Nat} (h : aggFact P t = some n) : TA P t n := ⟨by
  unfold aggFact at h
  split at h
  · rename_i fs hfs
    cases hi : P.info? t with
    | none => rw [hi] at h; cases h
    | some i => rw [hi] at h; simp at h; exact ⟨⟨_, hfs, .inl ⟨_, rfl⟩⟩, i, rfl, h⟩
  · rename_i k e hfs
    cases hi : P.info? t with
    | none => rw [hi] at h; cases h
    | some i => rw [hi] at h; simp at h; exact ⟨⟨_, hfs, .inr ⟨_, _, rfl⟩⟩, i, rfl, h⟩
  · cases h⟩
theorem CF.mk' {P : Program} {f : FuncId} {fn : Func} (hf : P.funcs[f]? = some fn) (hname : (fn.name == "runtime.NumGoroutine") = false) (hb : fn.body.isNone = false) : CF P f := ⟨fun args w => by
  have h1 : fn.name ≠ "runtime.NumGoroutine" := by simpa using hname
  cases hbd : fn.body with
  | none => simp [hbd] at hb
  | some c => simp [callFunc, hf, h1, hbd]⟩

theorem run_underlying' {P : Program} {t : TypeId} {d : TypeDesc} (h : P.underlying t = some d) (w : World) : (underlying t).run P w = .ok d w := by simp [underlying, h]
theorem run_typeInfo' {P : Program} {t : TypeId} {i : TypeInfo} (h : P.info? t = some i) (w : World) : (typeInfo t).run P w = .ok i w := by simp [typeInfo, h]
theorem run_sizeOf' {P : Program} {t : TypeId} {i : TypeInfo} (h : P.info? t = some i) (w : World) : (sizeOf t).run P w = .ok i.size w := by simp [sizeOf, run_typeInfo' h]
theorem run_zeroValue' {P : Program} {t : TypeId} {i : TypeInfo} {z : Value} (h : P.info? t = some i) (hz : i.zero = some z) (w : World) : (zeroValue t).run P w = .ok z w := by simp [zeroValue, run_typeInfo' h, hz]
theorem run_isAgg1 {P : Program} {t : TypeId} [T1 P t] (w : World) : (isAgg t).run P w = .ok false w := by
  obtain ⟨d, hd, h1, h2⟩ := T1.h (P := P) (t := t)
  cases d <;> simp_all [isAgg, underlying]
theorem run_isAggA {P : Program} {t : TypeId} {n : Nat} [TA P t n] (w : World) : (isAgg t).run P w = .ok true w := by
  obtain ⟨⟨d, hd, h⟩, _⟩ := TA.h (P := P) (t := t) (n := n)
  rcases h with ⟨fs, rfl⟩ | ⟨k, e, rfl⟩ <;> simp [isAgg, underlying, hd]

section
variable {P : Program} {N : Nat} {rd : Option Nat} {E : Env} {D : List Deferred} {L : List HP} {Q : Post} {next : Env → List Deferred → List HP → Prop}
variable {d : Option Nat} {ty : TypeId} {pos : String} {after : Array Edge} {g : Option (Nat × Bool)}

/-- An operation that reckons, and leaves the world as it is. -/
theorem JO_pure {o : Oper} (v : Value) (hnd : ∀ c, o.op ≠ .defer c) (hd : dok N o.dst = true) (h : ∀ (a : Act) (w : World), Rep N E D a → (execOp a.eval o).run P w = .ok (.value v) w)
    (hn : next (put E o.dst v) D L) : JO P N rd o E D L next Q :=
  JO_value hnd hd fun _ a w hr hs => ⟨v, w, L, h a w hr, hs, hn⟩

/-- Splitting on a bool in a slot. -/
theorem JL_split {all : Array Oper} {i : Nat} {rest : List Oper} (t : Nat) {b : Bool} (hb : Env.get E t = some (.bool b))
    (h1 : b = true → JL P N rd all i rest ((t, .bool true) :: E) D L Q) (h2 : b = false → JL P N rd all i rest ((t, .bool false) :: E) D L Q) : JL P N rd all i rest E D L Q := by
  cases b with
  | true => exact JL_env (sub_cons hb (Sub.refl E)) (h1 rfl)
  | false => exact JL_env (sub_cons hb (Sub.refl E)) (h2 rfl)
theorem JL_splitP {all : Array Oper} {i : Nat} {rest : List Oper} (t : Nat) {p : Prop} {_ : Decidable p} (hb : Env.get E t = some (.bool (decide p)))
    (h1 : p → JL P N rd all i rest ((t, .bool true) :: E) D L Q) (h2 : ¬ p → JL P N rd all i rest ((t, .bool false) :: E) D L Q) : JL P N rd all i rest E D L Q :=
  JL_split t hb (fun h => h1 (of_decide_eq_true h)) (fun h => h2 (of_decide_eq_false h))

theorem JO_move {x : Operand} {v : Value} (hx : ev E x = some v) (hd : dok N d = true) (h : next (put E d v) D L) : JO P N rd ⟨d, .move x, ty, pos, after, g⟩ E D L next Q :=
  JO_pure v (fun c => by simp) hd (fun a w hr => by simp [execOp, hr.eval hx]) h
theorem JO_assign {x : Operand} {v : Value} (hx : ev E x = some v) (hd : dok N d = true) (h : next (put E d v) D L) : JO P N rd ⟨d, .assign x, ty, pos, after, g⟩ E D L next Q :=
  JO_pure v (fun c => by simp) hd (fun a w hr => by simp [execOp, hr.eval hx]) h
theorem JO_pickT {c x y : Operand} {v : Value} (hc : ev E c = some (.bool true)) (hx : ev E x = some v) (hd : dok N d = true) (h : next (put E d v) D L) : JO P N rd ⟨d, .pick c x y, ty, pos, after, g⟩ E D L next Q :=
  JO_pure v (fun c => by simp) hd (fun a w hr => by simp [execOp, hr.eval hc, hr.eval hx, asBool]) h
theorem JO_pickF {c x y : Operand} {v : Value} (hc : ev E c = some (.bool false)) (hx : ev E y = some v) (hd : dok N d = true) (h : next (put E d v) D L) : JO P N rd ⟨d, .pick c x y, ty, pos, after, g⟩ E D L next Q :=
  JO_pure v (fun c => by simp) hd (fun a w hr => by simp [execOp, hr.eval hc, hr.eval hx, asBool]) h
theorem JO_not {x : Operand} {t : TypeId} {b : Bool} (hx : ev E x = some (.bool b)) (hd : dok N d = true) (h : next (put E d (.bool (!b))) D L) : JO P N rd ⟨d, .unOp .not t x, ty, pos, after, g⟩ E D L next Q :=
  JO_pure _ (fun c => by simp) hd (fun a w hr => by simp [execOp, hr.eval hx, Op.unary]) h
theorem JO_notP {x : Operand} {t : TypeId} {p : Prop} {_ : Decidable p} (hx : ev E x = some (.bool (decide p))) (hd : dok N d = true) (h : next (put E d (.bool (decide (¬ p)))) D L) : JO P N rd ⟨d, .unOp .not t x, ty, pos, after, g⟩ E D L next Q :=
  JO_pure _ (fun c => by simp) hd (fun a w hr => by simp [execOp, hr.eval hx, Op.unary]) h
def lget : List Value → Nat → Option Value
  | [], _ => none
  | v :: _, 0 => some v
  | _ :: l, i + 1 => lget l i
theorem lget_eq : ∀ (l : List Value) (i : Nat), lget l i = l[i]?
  | [], _ => by simp [lget]
  | _ :: _, 0 => rfl
  | _ :: l, i + 1 => by simp [lget, lget_eq l i]
theorem JO_extract {x : Operand} {vs : List Value} {k : Nat} {v : Value} (hx : ev E x = some (.tuple vs.toArray)) (hk : lget vs k = some v) (hd : dok N d = true) (h : next (put E d v) D L) : JO P N rd ⟨d, .extract x k, ty, pos, after, g⟩ E D L next Q :=
  JO_pure v (fun c => by simp) hd (fun a w hr => by rw [lget_eq] at hk; simp [execOp, hr.eval hx, Instr.extract, hk]) h

/-! ### int -/
theorem wrap_in {z : Int} (h : -9223372036854775808 ≤ z ∧ z ≤ 9223372036854775807) : IntKind.i64.wrap z = z := by
  rw [IntKind.wrap_i64]; omega
section ints
variable {x y : Operand} {m n : Int} {t u : TypeId} {k : IntKind}
theorem JO_addW (hx : ev E x = some (.int k m)) (hy : ev E y = some (.int k n)) (hd : dok N d = true) (h : next (put E d (.int k (k.wrap (m + n)))) D L) : JO P N rd ⟨d, .binOp .add t x y u, ty, pos, after, g⟩ E D L next Q :=
  JO_pure _ (fun c => by simp) hd (fun a w hr => by simp [execOp, hr.eval hx, hr.eval hy, eqGuard, binOp, Op.intArith]) h
theorem JO_subW (hx : ev E x = some (.int k m)) (hy : ev E y = some (.int k n)) (hd : dok N d = true) (h : next (put E d (.int k (k.wrap (m - n)))) D L) : JO P N rd ⟨d, .binOp .sub t x y u, ty, pos, after, g⟩ E D L next Q :=
  JO_pure _ (fun c => by simp) hd (fun a w hr => by simp [execOp, hr.eval hx, hr.eval hy, eqGuard, binOp, Op.intArith]) h
theorem JO_mulW (hx : ev E x = some (.int k m)) (hy : ev E y = some (.int k n)) (hd : dok N d = true) (h : next (put E d (.int k (k.wrap (m * n)))) D L) : JO P N rd ⟨d, .binOp .mul t x y u, ty, pos, after, g⟩ E D L next Q :=
  JO_pure _ (fun c => by simp) hd (fun a w hr => by simp [execOp, hr.eval hx, hr.eval hy, eqGuard, binOp, Op.intArith]) h
theorem JO_add (hx : ev E x = some (.int .i64 m)) (hy : ev E y = some (.int .i64 n)) (hb : -9223372036854775808 ≤ m + n ∧ m + n ≤ 9223372036854775807) (hd : dok N d = true) (h : next (put E d (.int .i64 (m + n))) D L) :
    JO P N rd ⟨d, .binOp .add t x y u, ty, pos, after, g⟩ E D L next Q := JO_addW hx hy hd (by rw [wrap_in hb]; exact h)
theorem JO_sub (hx : ev E x = some (.int .i64 m)) (hy : ev E y = some (.int .i64 n)) (hb : -9223372036854775808 ≤ m - n ∧ m - n ≤ 9223372036854775807) (hd : dok N d = true) (h : next (put E d (.int .i64 (m - n))) D L) :
    JO P N rd ⟨d, .binOp .sub t x y u, ty, pos, after, g⟩ E D L next Q := JO_subW hx hy hd (by rw [wrap_in hb]; exact h)
theorem JO_mul (hx : ev E x = some (.int .i64 m)) (hy : ev E y = some (.int .i64 n)) (hb : -9223372036854775808 ≤ m * n ∧ m * n ≤ 9223372036854775807) (hd : dok N d = true) (h : next (put E d (.int .i64 (m * n))) D L) :
    JO P N rd ⟨d, .binOp .mul t x y u, ty, pos, after, g⟩ E D L next Q := JO_mulW hx hy hd (by rw [wrap_in hb]; exact h)
/-- A counter: a cast of a Nat, one more. -/
theorem JO_addN {a b : Nat} (hx : ev E x = some (.int .i64 (a : Int))) (hy : ev E y = some (.int .i64 (b : Int))) (hb : a + b ≤ 9223372036854775807) (hd : dok N d = true) (h : next (put E d (.int .i64 ((a + b : Nat) : Int))) D L) :
    JO P N rd ⟨d, .binOp .add t x y u, ty, pos, after, g⟩ E D L next Q := JO_add hx hy (by omega) hd (by rw [show ((a : Int) + (b : Int)) = ((a + b : Nat) : Int) from by omega]; exact h)
theorem JO_lss (hx : ev E x = some (.int k m)) (hy : ev E y = some (.int k n)) (hd : dok N d = true) (h : next (put E d (.bool (decide (m < n)))) D L) : JO P N rd ⟨d, .binOp .lss t x y u, ty, pos, after, g⟩ E D L next Q :=
  JO_pure _ (fun c => by simp) hd (fun a w hr => by simp [execOp, hr.eval hx, hr.eval hy, eqGuard, binOp, Op.intCmp]) h
theorem JO_leq (hx : ev E x = some (.int k m)) (hy : ev E y = some (.int k n)) (hd : dok N d = true) (h : next (put E d (.bool (decide (m ≤ n)))) D L) : JO P N rd ⟨d, .binOp .leq t x y u, ty, pos, after, g⟩ E D L next Q :=
  JO_pure _ (fun c => by simp) hd (fun a w hr => by simp [execOp, hr.eval hx, hr.eval hy, eqGuard, binOp, Op.intCmp]) h
theorem JO_gtr (hx : ev E x = some (.int k m)) (hy : ev E y = some (.int k n)) (hd : dok N d = true) (h : next (put E d (.bool (decide (n < m)))) D L) : JO P N rd ⟨d, .binOp .gtr t x y u, ty, pos, after, g⟩ E D L next Q :=
  JO_pure _ (fun c => by simp) hd (fun a w hr => by simp [execOp, hr.eval hx, hr.eval hy, eqGuard, binOp, Op.intCmp]) h
theorem JO_geq (hx : ev E x = some (.int k m)) (hy : ev E y = some (.int k n)) (hd : dok N d = true) (h : next (put E d (.bool (decide (n ≤ m)))) D L) : JO P N rd ⟨d, .binOp .geq t x y u, ty, pos, after, g⟩ E D L next Q :=
  JO_pure _ (fun c => by simp) hd (fun a w hr => by simp [execOp, hr.eval hx, hr.eval hy, eqGuard, binOp, Op.intCmp]) h
theorem JO_eqI (hx : ev E x = some (.int k m)) (hy : ev E y = some (.int k n)) (hd : dok N d = true) (h : next (put E d (.bool (decide (m = n)))) D L) : JO P N rd ⟨d, .binOp .eql t x y u, ty, pos, after, g⟩ E D L next Q :=
  JO_pure _ (fun c => by simp) hd (fun a w hr => by simp [execOp, hr.eval hx, hr.eval hy, eqGuard, binOp, Op.intCmp]; rfl) h
theorem JO_neI (hx : ev E x = some (.int k m)) (hy : ev E y = some (.int k n)) (hd : dok N d = true) (h : next (put E d (.bool (decide (m ≠ n)))) D L) : JO P N rd ⟨d, .binOp .neq t x y u, ty, pos, after, g⟩ E D L next Q :=
  JO_pure _ (fun c => by simp) hd (fun a w hr => by
    have : (m != n) = decide (m ≠ n) := by by_cases h : m = n <;> simp [h]
    simp [execOp, hr.eval hx, hr.eval hy, eqGuard, binOp, Op.intCmp, this]) h
end ints

/-! ### Built-in functions -/
theorem JO_len {x : Operand} {t e : TypeId} [TU P t (.slice e)] {p : Option Addr} {n c : Nat} (hx : ev E x = some (.slice p n c)) (hd : dok N d = true) (h : next (put E d (.int .i64 (n : Int))) D L) :
    JO P N rd ⟨d, .call ⟨.builtin .len, #[x], #[t]⟩, ty, pos, after, g⟩ E D L next Q :=
  JO_pure _ (fun c => by simp) hd (fun a w hr => by simp [execOp, resolve, invoke, builtin, Builtin.len_, hr.eval hx, run_underlying' TU.h, goInt]) h
theorem JO_lenS {x : Operand} {t : TypeId} [TU P t .string] {s : ByteArray} (hx : ev E x = some (.string s)) (hd : dok N d = true) (h : next (put E d (.int .i64 (s.size : Int))) D L) :
    JO P N rd ⟨d, .call ⟨.builtin .len, #[x], #[t]⟩, ty, pos, after, g⟩ E D L next Q :=
  JO_pure _ (fun c => by simp) hd (fun a w hr => by simp [execOp, resolve, invoke, builtin, Builtin.len_, hr.eval hx, run_underlying' TU.h, goInt]) h
theorem JO_min {x y : Operand} {ts : Array TypeId} {k : IntKind} {m n : Int} (hx : ev E x = some (.int k m)) (hy : ev E y = some (.int k n)) (hd : dok N d = true) (h : next (put E d (.int k (min m n))) D L) :
    JO P N rd ⟨d, .call ⟨.builtin .min, #[x, y], ts⟩, ty, pos, after, g⟩ E D L next Q :=
  JO_pure _ (fun c => by simp) hd (fun a w hr => by
    have h1 : (if n < m then n else m) = min m n := by omega
    simp [execOp, resolve, invoke, builtin, hr.eval hx, hr.eval hy, run_min_int2, h1]) h
theorem JO_max {x y : Operand} {ts : Array TypeId} {k : IntKind} {m n : Int} (hx : ev E x = some (.int k m)) (hy : ev E y = some (.int k n)) (hd : dok N d = true) (h : next (put E d (.int k (max m n))) D L) :
    JO P N rd ⟨d, .call ⟨.builtin .max, #[x, y], ts⟩, ty, pos, after, g⟩ E D L next Q :=
  JO_pure _ (fun c => by simp) hd (fun a w hr => by
    have h1 : (if m < n then n else m) = max m n := by omega
    simp [execOp, resolve, invoke, builtin, hr.eval hx, hr.eval hy, run_max_int2, h1]) h

/-! ### Making values -/
theorem JO_makeFunc {fn : Fn} {first captured : Array Operand} {vs us : List Value} (h1 : evs E first.toList = some vs) (h2 : evs E captured.toList = some us) (hd : dok N d = true)
    (h : next (put E d (.func fn vs.toArray us.toArray)) D L) : JO P N rd ⟨d, .makeFunc fn first captured, ty, pos, after, g⟩ E D L next Q :=
  JO_pure _ (fun c => by simp) hd (fun a w hr => by
    have e1 := hr.evals h1
    have e2 := hr.evals h2
    have e1' : first.map a.eval = vs.toArray := by rw [← e1]; apply Array.ext'; simp
    have e2' : captured.map a.eval = us.toArray := by rw [← e2]; apply Array.ext'; simp
    simp [execOp, Instr.makeFunc, e1', e2']) h
theorem JO_makeIface {t : TypeId} {x : Operand} {dd : TypeDesc} [TU P t dd] {v : Value} (hni : ∀ ms, dd ≠ .interface ms) (hx : ev E x = some v) (hd : dok N d = true) (h : next (put E d (.iface t v)) D L) :
    JO P N rd ⟨d, .makeInterface t x, ty, pos, after, g⟩ E D L next Q :=
  JO_pure _ (fun c => by simp) hd (fun a w hr => by
    have := run_underlying' (TU.h (P := P) (t := t) (d := dd)) w
    cases dd <;> simp_all [execOp, Instr.makeInterface, hr.eval hx]) h

/-! ### Variables -/
theorem JO_alloc {t : TypeId} {z : Value} {n b : Nat} [TI P t z n b] (hd : dok N d = true) (h : ∀ r, next (put E d (.pointer (some ⟨r, 0, none⟩))) D (pt r (.cells z.cells t (0, 0)) :: L)) :
    JO P N rd ⟨d, .alloc t, ty, pos, after, g⟩ E D L next Q :=
  JO_value (fun c => by simp) hd fun F a w hr hs => by
    obtain ⟨i, h1, h2, h3, h4⟩ := TI.h (P := P) (t := t) (z := z) (n := n) (b := b)
    exact ⟨_, _, _, by simp [execOp, Instr.alloc, run_zeroValue' h1 h2, newVar, newRow], (hs.new _).swap, h _⟩
theorem JO_allocA {t : TypeId} {cs : Array Value} {n b : Nat} [TI P t (.agg cs) n b] (hd : dok N d = true) (h : ∀ r, next (put E d (.pointer (some ⟨r, 0, none⟩))) D (pt r (.cells cs t (0, 0)) :: L)) :
    JO P N rd ⟨d, .alloc t, ty, pos, after, g⟩ E D L next Q := JO_alloc (z := .agg cs) hd h
theorem JO_alloc1 {t : TypeId} {z : Value} {n b : Nat} [TI P t z n b] (hz : z.cells = #[z]) (hd : dok N d = true) (h : ∀ r, next (put E d (.pointer (some ⟨r, 0, none⟩))) D (pt r (.cells #[z] t (0, 0)) :: L)) :
    JO P N rd ⟨d, .alloc t, ty, pos, after, g⟩ E D L next Q := JO_alloc hd fun r => by rw [hz]; exact h r
theorem JO_box {t : TypeId} {x : Operand} {v : Value} (hx : ev E x = some v) (hd : dok N d = true) (h : ∀ r, next (put E d (.pointer (some ⟨r, 0, none⟩))) D (pt r (.cells v.cells t (0, 0)) :: L)) :
    JO P N rd ⟨d, .box t x, ty, pos, after, g⟩ E D L next Q :=
  JO_value (fun c => by simp) hd fun F a w hr hs => by
    exact ⟨_, _, _, by simp [execOp, Instr.box, hr.eval hx, newVar, newRow], (hs.new _).swap, h _⟩
theorem JO_boxA {t : TypeId} {x : Operand} {cs : Array Value} (hx : ev E x = some (.agg cs)) (hd : dok N d = true) (h : ∀ r, next (put E d (.pointer (some ⟨r, 0, none⟩))) D (pt r (.cells cs t (0, 0)) :: L)) :
    JO P N rd ⟨d, .box t x, ty, pos, after, g⟩ E D L next Q := JO_box hx hd h
theorem JO_box1 {t : TypeId} {x : Operand} {v : Value} (hx : ev E x = some v) (hv : v.cells = #[v]) (hd : dok N d = true) (h : ∀ r, next (put E d (.pointer (some ⟨r, 0, none⟩))) D (pt r (.cells #[v] t (0, 0)) :: L)) :
    JO P N rd ⟨d, .box t x, ty, pos, after, g⟩ E D L next Q := JO_box hx hd fun r => by rw [hv]; exact h r

/-- A block, found in a list. -/
class HB (L : List HP) (b : Nat) (o : outParam Obj) : Prop where h : ∀ (F : HP) (w : World), Sat w (F :: L) → w.heap[b]? = some o
instance hb_pt (b : Nat) (o : Obj) (L : List HP) : HB (pt b o :: L) b o := ⟨fun _ _ hs => hs.tail.pt_heap⟩
instance hb_ro (b : Nat) (o : Obj) (L : List HP) : HB (ro b o :: L) b o := ⟨fun _ _ hs => hs.tail.ro_heap⟩
instance (priority := low) hb_tail (A : HP) (b : Nat) (o : Obj) (L : List HP) [h : HB L b o] : HB (A :: L) b o := ⟨fun _ _ hs => h.h A _ hs.tail⟩
/-- A block, found in a list, to be written. -/
class WB (L : List HP) (b : Nat) (o : outParam Obj) (L' : outParam (Obj → List HP)) : Prop where h : ∀ (F : HP) (w : World), Sat w (F :: L) → w.heap[b]? = some o ∧ ∀ o', Sat (setObj w b o') (F :: L' o')
instance wb_pt (b : Nat) (o : Obj) (L : List HP) : WB (pt b o :: L) b o (fun o' => pt b o' :: L) := ⟨fun _ _ hs => ⟨hs.tail.pt_heap, fun o' => (hs.swap.set_pt o').swap⟩⟩
instance (priority := low) wb_tail (A : HP) (b : Nat) (o : Obj) (L : List HP) (L' : Obj → List HP) [h : WB L b o L'] : WB (A :: L) b o (fun o' => A :: L' o') := ⟨fun F w hs => by
  have h1 : Sat w (Star [F, A] :: L) := (Sat.fold (L1 := [F, A])).1 hs
  obtain ⟨h2, h3⟩ := h.h _ w h1
  exact ⟨h2, fun o' => (Sat.fold (L1 := [F, A])).2 (h3 o')⟩⟩

/-- A list's place, set. -/
class SetAt (l : List Value) (i : Nat) (v : Value) (l' : outParam (List Value)) : Prop where h : l.set i v = l' ∧ i < l.length
instance setAt_zero (a v : Value) (l : List Value) : SetAt (a :: l) 0 v (v :: l) := ⟨rfl, by simp⟩
instance setAt_succ (a v : Value) (l l' : List Value) (i : Nat) [h : SetAt l i v l'] : SetAt (a :: l) (i + 1) v (a :: l') := ⟨by simp [h.h.1], by simpa using h.h.2⟩
class GetAt (l : List Value) (i : Nat) (v : outParam Value) : Prop where h : l[i]? = some v
instance getAt_zero (a : Value) (l : List Value) : GetAt (a :: l) 0 a := ⟨rfl⟩
instance getAt_succ (a v : Value) (l : List Value) (i : Nat) [h : GetAt l i v] : GetAt (a :: l) (i + 1) v := ⟨by simpa using h.h⟩

theorem cell_of {w : World} {b off : Nat} {cs : List Value} {t : TypeId} {fz : Nat × Nat} {v : Value} (h : w.heap[b]? = some (.cells cs.toArray t fz)) (hv : cs[off]? = some v) : w.cell? ⟨b, off, none⟩ = some v := by
  simp [World.cell?, h, hv]

/-- What a place in memory reads as. -/
def Lds (L : List HP) (a : Addr) (v : Value) : Prop := ∀ (F : HP) (w : World), Sat w (F :: L) → w.cell? a = some v
theorem lds_block {b off : Nat} {cs : List Value} {t : TypeId} {fz : Nat × Nat} {v : Value} [h : HB L b (.cells cs.toArray t fz)] (hv : cs[off]? = some v) : Lds L ⟨b, off, none⟩ v := fun F w hs => cell_of (h.h F w hs) hv

theorem JO_loadL {t : TypeId} [T1 P t] {x : Operand} {p : Addr} {v : Value} (hx : ev E x = some (.pointer (some p))) (hl : Lds L p v) (hd : dok N d = true) (h : next (put E d v) D L) :
    JO P N rd ⟨d, .load t x, ty, pos, after, g⟩ E D L next Q :=
  JO_value (fun c => by simp) hd fun F a w hr hs => ⟨v, w, L, by simp [execOp, Instr.loadAt, Instr.sureAddr, hr.eval hx, loadVar, run_isAgg1 (P := P) (t := t), hl F w hs], hs, h⟩
/-- A variable of one cell, or a field, of a block that is known cell by cell. -/
theorem JO_load {t : TypeId} [T1 P t] {x : Operand} {b off : Nat} {cs : List Value} {bt : TypeId} {fz : Nat × Nat} {v : Value} (hx : ev E x = some (.pointer (some ⟨b, off, none⟩))) [HB L b (.cells cs.toArray bt fz)] [hg : GetAt cs off v]
    (hd : dok N d = true) (h : next (put E d v) D L) : JO P N rd ⟨d, .load t x, ty, pos, after, g⟩ E D L next Q := JO_loadL hx (lds_block hg.h) hd h

theorem run_loadCells_block {w : World} {b off n : Nat} {cs : List Value} {t : TypeId} {fz : Nat × Nat} (h : w.heap[b]? = some (.cells cs.toArray t fz)) (hn : off + n ≤ cs.length) :
    (loadCells ⟨b, off, none⟩ n).run P w = .ok ((cs.drop off).take n).toArray w := by
  have := run_loadCells_list (P := P) (w := w) ⟨b, off, none⟩ ((cs.drop off).take n) (fun j v hj => by
    have hj' : cs[off + j]? = some v ∧ j < n := by
      rw [List.getElem?_take] at hj
      split at hj
      · rename_i hlt; exact ⟨by simpa using hj, hlt⟩
      · cases hj
    have : (⟨b, off, none⟩ : Addr).add j = ⟨b, off + j, none⟩ := by unfold Addr.add; split <;> simp_all
    rw [this]
    exact cell_of h hj'.1)
  have hlen : ((cs.drop off).take n).length = n := by simp; omega
  rw [hlen] at this
  exact this

theorem JO_loadA {t n : TypeId} [TA P t n] {x : Operand} {b off : Nat} {cs : List Value} {bt : TypeId} {fz : Nat × Nat} (hx : ev E x = some (.pointer (some ⟨b, off, none⟩))) [hb : HB L b (.cells cs.toArray bt fz)] (hn : off + n ≤ cs.length)
    (hd : dok N d = true) (h : next (put E d (.agg ((cs.drop off).take n).toArray)) D L) : JO P N rd ⟨d, .load t x, ty, pos, after, g⟩ E D L next Q :=
  JO_value (fun c => by simp) hd fun F a w hr hs => ⟨_, w, L, by
    obtain ⟨_, i, hi, hsz⟩ := TA.h (P := P) (t := t) (n := n)
    simp [execOp, Instr.loadAt, Instr.sureAddr, hr.eval hx, loadVar, run_isAggA (P := P) (t := t) (n := n), run_sizeOf' hi, hsz, run_loadCells_block (hb.h F w hs) hn], hs, h⟩
/-- A whole struct out of a variable of its own. -/
theorem JO_loadW {t n : TypeId} [TA P t n] {x : Operand} {b : Nat} {cs : List Value} {bt : TypeId} {fz : Nat × Nat} (hx : ev E x = some (.pointer (some ⟨b, 0, none⟩))) [hb : HB L b (.cells cs.toArray bt fz)] (hn : cs.length = n)
    (hd : dok N d = true) (h : next (put E d (.agg cs.toArray)) D L) : JO P N rd ⟨d, .load t x, ty, pos, after, g⟩ E D L next Q :=
  JO_loadA hx (by omega) hd (by rw [List.drop_zero, List.take_of_length_le (by omega)]; exact h)

theorem setCell_setObj {w : World} {b off : Nat} {cs : List Value} {t : TypeId} {fz : Nat × Nat} (h : w.heap[b]? = some (.cells cs.toArray t fz)) (v : Value) :
    w.setCell ⟨b, off, none⟩ v = setObj w b (.cells (cs.set off v).toArray t fz) := by
  unfold World.setCell setObj
  congr 1
  apply Array.ext_getElem?
  intro i
  obtain ⟨h3, h4⟩ := Array.getElem?_eq_some_iff.1 h
  by_cases hi : i = b
  · subst hi
    rw [Array.getElem?_modify, if_pos rfl, h, Array.getElem?_setIfInBounds_self_of_lt h3]
    simp
  · simp [Array.getElem?_modify, Ne.symm hi]

theorem run_storeCell {w : World} {b off : Nat} {cs : List Value} {t : TypeId} {v u : Value} (h : w.heap[b]? = some (.cells cs.toArray t (0, 0))) (hu : cs[off]? = some u) (hv : v.oneCell' = true) :
    (store ⟨b, off, none⟩ v).run P w = .ok () (setObj w b (.cells (cs.set off v).toArray t (0, 0))) := by
  rw [run_store _ _ _ _ _ hv, cell_of h hu]
  have : w.frozen? ⟨b, off, none⟩ = false := by simp [World.frozen?, h]
  simp [this, setCell_setObj h]

/-- A store of one cell into a block that is known cell by cell. -/
theorem JO_store {t : TypeId} {z : Value} {k : Nat} [TI P t z 1 k] {x y : Operand} {b off : Nat} {cs cs' : List Value} {bt : TypeId} {v : Value} {L' : Obj → List HP} (hx : ev E x = some (.pointer (some ⟨b, off, none⟩))) (hy : ev E y = some v)
    [hb : WB L b (.cells cs.toArray bt (0, 0)) L'] [hs : SetAt cs off v cs'] (hv : v.oneCell' = true) (hd : dok N d = true) (h : next (put E d undef) D (L' (.cells cs'.toArray bt (0, 0)))) : JO P N rd ⟨d, .store t x y, ty, pos, after, g⟩ E D L next Q :=
  JO_unit (fun c => by simp) hd fun F a w hr hs' => by
    obtain ⟨i, h1, h2, h3, h4⟩ := TI.h (P := P) (t := t) (z := z) (n := 1) (b := k)
    obtain ⟨hb1, hb2⟩ := hb.h F w hs'
    obtain ⟨e1, e2⟩ := hs.h
    have hc : v.cells = #[v] := by cases v <;> first | rfl | simp [Value.oneCell'] at hv
    have hst := run_storeCell (P := P) hb1 (List.getElem?_eq_getElem e2) hv
    rw [e1] at hst
    refine ⟨_, _, ?_, hb2 _, h⟩
    simp [execOp, Instr.storeAt, Instr.sureAddr, hr.eval hx, hr.eval hy, storeVar, hc, run_sizeOf' h1, h3, storeCells, Addr.add, hst]

theorem run_storeCells_all {t : TypeId} {b : Nat} : ∀ (vs pre post : List Value) (w : World), (∀ v ∈ vs, v.oneCell' = true) → ∀ old : List Value, old.length = vs.length → w.heap[b]? = some (.cells (pre ++ old ++ post).toArray t (0, 0)) →
    (storeCells ⟨b, 0, none⟩ vs pre.length).run P w = .ok () (setObj w b (.cells (pre ++ vs ++ post).toArray t (0, 0))) := by
  intro vs
  induction vs with
  | nil =>
    intro pre post w _ old ho hb
    have : old = [] := by simpa using ho
    subst this
    simp only [storeCells, Sem.run_pure, setObj]
    congr 1
    have : w.heap.setIfInBounds b (.cells (pre ++ [] ++ post).toArray t (0, 0)) = w.heap := by
      apply Array.ext_getElem?
      intro i
      by_cases hi : i = b
      · subst hi; obtain ⟨h2, h3⟩ := Array.getElem?_eq_some_iff.1 hb; simp only [List.append_nil] at h3; simp [h2, h3]
      · simp [Ne.symm hi]
    rw [this]
  | cons v vs ih =>
    intro pre post w hv old ho hb
    obtain ⟨o, old, rfl⟩ : ∃ o l, old = o :: l := by cases old with | nil => simp at ho | cons o l => exact ⟨o, l, rfl⟩
    have hadd : (⟨b, 0, none⟩ : Addr).add pre.length = ⟨b, pre.length, none⟩ := by unfold Addr.add; split <;> simp_all
    have hst := run_storeCell (P := P) (w := w) (v := v) (off := pre.length) (u := o) hb (by simp) (hv v (by simp))
    have hset : (pre ++ o :: old ++ post).set pre.length v = (pre ++ [v]) ++ old ++ post := by simp
    rw [hset] at hst
    have hb' : (setObj w b (.cells ((pre ++ [v]) ++ old ++ post).toArray t (0, 0))).heap[b]? = some (.cells ((pre ++ [v]) ++ old ++ post).toArray t (0, 0)) := by
      have h2 := Array.getElem?_eq_some_iff.1 hb; simp [setObj, h2.1]
    have := ih (pre ++ [v]) post _ (fun u hu => hv u (by simp [hu])) old (by simpa using ho) hb'
    simp only [storeCells, hadd, Sem.run_bind, hst, Result.andThen_ok]
    simp only [List.length_append, List.length_singleton] at this
    rw [this]
    simp [setObj]
/-- A whole struct into a variable of its own. -/
theorem JO_storeW {t : TypeId} {z : Value} {n k : Nat} [TI P t z n k] {x y : Operand} {b : Nat} {cs vs : List Value} {bt : TypeId} {L' : Obj → List HP} (hx : ev E x = some (.pointer (some ⟨b, 0, none⟩))) (hy : ev E y = some (.agg vs.toArray))
    [hb : WB L b (.cells cs.toArray bt (0, 0)) L'] (hn : vs.length = n) (hn' : cs.length = n) (hv : ∀ v ∈ vs, v.oneCell' = true) (hd : dok N d = true) (h : next (put E d undef) D (L' (.cells vs.toArray bt (0, 0)))) :
    JO P N rd ⟨d, .store t x y, ty, pos, after, g⟩ E D L next Q :=
  JO_unit (fun c => by simp) hd fun F a w hr hs' => by
    obtain ⟨i, h1, h2, h3, h4⟩ := TI.h (P := P) (t := t) (z := z) (n := n) (b := k)
    obtain ⟨hb1, hb2⟩ := hb.h F w hs'
    have hst := run_storeCells_all (P := P) (b := b) (t := bt) vs [] [] w hv cs (by omega) (by simpa using hb1)
    refine ⟨_, _, ?_, hb2 _, h⟩
    simp only [List.length_nil, List.nil_append, List.append_nil] at hst
    simp [execOp, Instr.storeAt, Instr.sureAddr, hr.eval hx, hr.eval hy, storeVar, Value.cells, run_sizeOf' h1, h3, hn, hst]

/-! ### Places -/
theorem addr_add {b o n : Nat} : (⟨b, o, none⟩ : Addr).add n = ⟨b, o + n, none⟩ := by unfold Addr.add; split <;> simp_all
theorem JO_field {s f off ft n : Nat} [TF P s f off ft n] {x : Operand} {b o : Nat} (hx : ev E x = some (.pointer (some ⟨b, o, none⟩))) (hd : dok N d = true) (h : next (put E d (.pointer (some ⟨b, o + off, none⟩))) D L) :
    JO P N rd ⟨d, .fieldAddr s x f, ty, pos, after, g⟩ E D L next Q :=
  JO_pure _ (fun c => by simp) hd (fun a w hr => by
    obtain ⟨fs, fl, h1, h2, rfl, rfl, ⟨i, h3, h4⟩, h5⟩ := TF.h (P := P) (s := s) (f := f) (off := off) (ty := ft) (n := n)
    simp [execOp, Instr.fieldAt, hr.eval hx, run_underlying' h1, h2, Instr.sureAddr, fieldPlace, run_sizeOf' h3, h4, h5, addr_add]) h
theorem JO_field0 {s f off ft n : Nat} [TF P s f off ft n] {x : Operand} {b : Nat} (hx : ev E x = some (.pointer (some ⟨b, 0, none⟩))) (hd : dok N d = true) (h : next (put E d (.pointer (some ⟨b, off, none⟩))) D L) :
    JO P N rd ⟨d, .fieldAddr s x f, ty, pos, after, g⟩ E D L next Q := JO_field hx hd (by rw [Nat.zero_add]; exact h)
theorem JO_index {t e : TypeId} [TU P t (.slice e)] {z : Value} {n k : Nat} [TI P e z n k] {x y : Operand} {b o len cap j : Nat} {ik : IntKind} (hx : ev E x = some (.slice (some ⟨b, o, none⟩) len cap)) (hy : ev E y = some (.int ik (j : Int))) (hj : j < len)
    (hd : dok N d = true) (h : next (put E d (.pointer (some ⟨b, o + j * n, none⟩))) D L) : JO P N rd ⟨d, .indexAddr t x y, ty, pos, after, g⟩ E D L next Q :=
  JO_pure _ (fun c => by simp) hd (fun a w hr => by
    obtain ⟨i, h1, h2, h3, h4⟩ := TI.h (P := P) (t := e) (z := z) (n := n) (b := k)
    have h5 : ¬ len ≤ j := by omega
    simp [execOp, Instr.indexAt, hr.eval hx, hr.eval hy, asIntOf, run_underlying' (TU.h (P := P) (t := t)), run_sizeOf' h1, h3, addr_add, h5]) h
theorem JO_index1 {t e : TypeId} [TU P t (.slice e)] {z : Value} {k : Nat} [TI P e z 1 k] {x y : Operand} {b len cap j : Nat} {ik : IntKind} (hx : ev E x = some (.slice (some ⟨b, 0, none⟩) len cap)) (hy : ev E y = some (.int ik (j : Int))) (hj : j < len)
    (hd : dok N d = true) (h : next (put E d (.pointer (some ⟨b, j, none⟩))) D L) : JO P N rd ⟨d, .indexAddr t x y, ty, pos, after, g⟩ E D L next Q :=
  JO_index hx hy hj hd (by simpa using h)

/-! ### Calls -/
theorem JO_call {f : FuncId} [hf : CF P f] {args : Array Operand} {ts : Array TypeId} {vs : List Value} {R : Ending → List HP → Prop} (hx : evs E args.toList = some vs) (hc : Ct P f vs.toArray L R) (hd : dok N d = true)
    (hv : ∀ v L', R (.returned v) L' → next (put E d v) D L') (hp : ∀ ch L', R (.panicked ch) L' → Q (.panic ch) E D L') : JO P N rd ⟨d, .call ⟨.value (.func f), args, ts⟩, ty, pos, after, g⟩ E D L next Q :=
  JO_enter (fun c => by simp) hd (fun a w hr => by
    have e : args.map a.eval = vs.toArray := by rw [← hr.evals hx]; apply Array.ext'; simp
    simp [execOp, resolve, e, Act.eval, Deferred.ofValue, invoke, hf.h]) hc hv hp
/-- A call of a function value: a closure. -/
theorem JO_callV {f : FuncId} [hf : CF P f] {x : Operand} {args : Array Operand} {ts : Array TypeId} {vs fs cs : List Value} {R : Ending → List HP → Prop} (hfv : ev E x = some (.func (.func f) fs.toArray cs.toArray)) (hx : evs E args.toList = some vs)
    (hc : Ct P f (fs ++ vs ++ cs).toArray L R) (hd : dok N d = true)
    (hv : ∀ v L', R (.returned v) L' → next (put E d v) D L') (hp : ∀ ch L', R (.panicked ch) L' → Q (.panic ch) E D L') : JO P N rd ⟨d, .call ⟨.value x, args, ts⟩, ty, pos, after, g⟩ E D L next Q :=
  JO_enter (fun c => by simp) hd (fun a w hr => by
    have e : args.map a.eval = vs.toArray := by rw [← hr.evals hx]; apply Array.ext'; simp
    simp [execOp, resolve, e, hr.eval hfv, Deferred.ofValue, invoke, hf.h]) hc hv hp

/-- Assertions taken out of a list. -/
class Tk (A : HP) (L : List HP) (M : outParam (List HP)) : Prop where h : L.Perm (A :: M)
instance tk_head (A : HP) (L : List HP) : Tk A (A :: L) L := ⟨.refl _⟩
instance (priority := low) tk_tail (A B : HP) (L M : List HP) [h : Tk A L M] : Tk A (B :: L) (B :: M) := ⟨(h.h.cons B).trans (List.Perm.swap _ _ _)⟩
class Sel (K L : List HP) (M : outParam (List HP)) : Prop where h : L.Perm (K ++ M)
instance sel_nil (L : List HP) : Sel [] L L := ⟨.refl _⟩
instance sel_cons (A : HP) (K L M M' : List HP) [h1 : Tk A L M] [h2 : Sel K M M'] : Sel (A :: K) L M' := ⟨h1.h.trans (h2.h.cons A)⟩
theorem Ct.use {f : FuncId} {args : Array Value} {K M : List HP} {R : Ending → List HP → Prop} (h : Ct P f args K R) [hs : Sel K L M] : Ct P f args L fun e L'' => ∃ L', R e L' ∧ L'' = L' ++ M :=
  Ct.heap (fun F _ s => s.perm (hs.h.cons F)) (h.frame M)
end
end Go.Sp

/- The rules of slices: literals, owned rows that grow, rows made whole, frozen rows that are read. -/
namespace Go.Sp
open Go.RowKit

/-- A value of one cell. -/
class One (v : Value) : Prop where h : v.oneCell' = true
instance (b : Bool) : One (.bool b) := ⟨rfl⟩
instance (k : IntKind) (n : Int) : One (.int k n) := ⟨rfl⟩
instance (s : ByteArray) : One (.string s) := ⟨rfl⟩
instance (a : Option Addr) : One (.pointer a) := ⟨rfl⟩
instance (a : Option Addr) (n c : Nat) : One (.slice a n c) := ⟨rfl⟩
instance (r : Option Nat) : One (.map r) := ⟨rfl⟩
instance (f : Fn) (x y : Array Value) : One (.func f x y) := ⟨rfl⟩
instance : One .nilFunc := ⟨rfl⟩
instance : One .nilIface := ⟨rfl⟩
instance (t : TypeId) (v : Value) : One (.iface t v) := ⟨rfl⟩
theorem One.cells {v : Value} (h : v.oneCell' = true) : v.cells = #[v] := by cases v <;> first | rfl | simp [Value.oneCell'] at h

/-- The cells of values, one behind the other. -/
class Cat (vs : List Value) (n : Nat) (cs : outParam (List Value)) : Prop where h : (∀ v ∈ vs, v.cells.size = n) ∧ vs.flatMap (fun v => v.cells.toList) = cs
instance cat_nil (n : Nat) : Cat [] n [] := ⟨by simp⟩
instance cat_one (v : Value) (vs cs : List Value) [h1 : One v] [h2 : Cat vs 1 cs] : Cat (v :: vs) 1 (v :: cs) := ⟨by
  have := One.cells h1.h
  refine ⟨fun u hu => ?_, ?_⟩
  · rcases List.mem_cons.1 hu with rfl | hu
    · simp [this]
    · exact h2.h.1 u hu
  · simp [this, h2.h.2]⟩
class App (l r : List Value) (s : outParam (List Value)) : Prop where h : l ++ r = s
instance app_nil (r : List Value) : App [] r r := ⟨rfl⟩
instance app_cons (a : Value) (l r s : List Value) [h : App l r s] : App (a :: l) r (a :: s) := ⟨by simp [h.h]⟩
class Len (l : List Value) (n : outParam Nat) : Prop where h : l.length = n
instance len_nil : Len [] 0 := ⟨rfl⟩
instance len_cons (a : Value) (l : List Value) (n : Nat) [h : Len l n] : Len (a :: l) (n + 1) := ⟨by simp [h.h]⟩
instance cat_agg (l vs cs s : List Value) (n : Nat) [h0 : Cat vs n cs] [h1 : App l cs s] [h2 : Len l n] : Cat (.agg l.toArray :: vs) n s := ⟨by
  refine ⟨fun u hu => ?_, ?_⟩
  · rcases List.mem_cons.1 hu with rfl | hu
    · simpa [Value.cells] using h2.h
    · exact h0.h.1 u hu
  · rw [List.flatMap_cons, h0.h.2]; exact h1.h⟩

theorem fill_row : ∀ (vs : List Value) (size : Nat) (pre post : List Value), (∀ v ∈ vs, v.cells.size = size) → post.length = vs.length * size →
    ∀ k, pre.length = k * size → Instr.fill (fun i => some (i * size, size)) (pre ++ post).toArray ((vs.zipIdx k).map fun (v, i) => (i, v)) = some (pre ++ vs.flatMap (fun v => v.cells.toList)).toArray := by
  intro vs
  induction vs with
  | nil =>
    intro size pre post _ hp k _
    have : post = [] := by simpa using hp
    simp [Instr.fill, this]
  | cons v vs ih =>
    intro size pre post hv hp k hk
    have hsz : v.cells.size = size := hv v (by simp)
    have hp' : post.length = size + vs.length * size := by rw [hp]; simp [Nat.add_mul]; omega
    have hcells : ∀ (cs : List Value) (pre post : List Value), cs.length ≤ post.length →
        ((cs.zipIdx 0).foldl (fun (acc : Array Value) (x : Value × Nat) => acc.setIfInBounds (pre.length + x.2) x.1) (pre ++ post).toArray) = (pre ++ cs ++ post.drop cs.length).toArray := by
      intro cs
      have gen : ∀ (cs : List Value) (j : Nat) (pre mid post : List Value), mid.length = j → cs.length ≤ post.length →
          ((cs.zipIdx j).foldl (fun (acc : Array Value) (x : Value × Nat) => acc.setIfInBounds (pre.length + x.2) x.1) (pre ++ mid ++ post).toArray) = (pre ++ mid ++ cs ++ post.drop cs.length).toArray := by
        intro cs
        induction cs with
        | nil => intro j pre mid post _ _; simp
        | cons c cs ih2 =>
          intro j pre mid post hm hl
          obtain ⟨p, post, rfl⟩ : ∃ p l, post = p :: l := by cases post with | nil => simp at hl | cons p l => exact ⟨p, l, rfl⟩
          have hset : (pre ++ mid ++ p :: post).set (pre.length + j) c = pre ++ (mid ++ [c]) ++ post := by
            rw [← hm, ← List.length_append, List.set_append_right _ _ (Nat.le_refl _)]
            simp
          simp only [List.zipIdx_cons, List.foldl_cons, List.setIfInBounds_toArray, hset]
          rw [ih2 (j + 1) pre (mid ++ [c]) post (by simp [hm]) (by simpa using hl)]
          simp
      intro pre post hl
      have := gen cs 0 pre [] post rfl hl
      simpa using this
    have h1 : ((v.cells.zipIdx).foldl (fun (cs : Array Value) (x : Value × Nat) => cs.setIfInBounds (k * size + x.2) x.1) (pre ++ post).toArray) = (pre ++ v.cells.toList ++ post.drop size).toArray := by
      have h2 := hcells v.cells.toList pre post (by simp [hsz]; omega)
      rw [← hk]
      simp only [Array.length_toList, hsz] at h2
      rw [← h2, ← Array.foldl_toList, Array.toList_zipIdx]
    have h3 : ¬ (v.cells.size ≠ size || k * size + v.cells.size > (pre ++ post).toArray.size) = true := by
      simp [hsz, hk, hp']
    simp only [List.zipIdx_cons, List.map_cons, Instr.fill]
    rw [if_neg h3, h1, show pre ++ v.cells.toList ++ post.drop size = (pre ++ v.cells.toList) ++ post.drop size from rfl]
    rw [ih size (pre ++ v.cells.toList) (post.drop size) (fun u hu => hv u (by simp [hu])) (by simp [hp']) (k + 1) (by simp [hk, hsz, Nat.add_mul])]
    simp

/-- The parts of a literal, in order. -/
def inOrder : List (Nat × Operand) → Nat → Option (List Operand)
  | [], _ => some []
  | (i, x) :: l, k => match Nat.beq i k with | true => (inOrder l (k + 1)).map (x :: ·) | false => none
theorem inOrder_eq : ∀ (l : List (Nat × Operand)) (k : Nat) (xs : List Operand), inOrder l k = some xs → l = (xs.zipIdx k).map fun (x, i) => (i, x) := by
  intro l
  induction l with
  | nil => intro k xs h; simp [inOrder] at h; simp [← h]
  | cons p l ih =>
    intro k xs h
    obtain ⟨i, x⟩ := p
    simp only [inOrder] at h
    split at h
    · rename_i hb
      have := Nat.eq_of_beq_eq_true hb
      subst this
      rw [Option.map_eq_some_iff] at h
      obtain ⟨ys, h1, rfl⟩ := h
      simp [ih _ _ h1]
    · cases h

section
variable {P : Program} {N : Nat} {rd : Option Nat} {E : Env} {D : List Deferred} {L : List HP} {Q : Post} {next : Env → List Deferred → List HP → Prop}
variable {d : Option Nat} {ty : TypeId} {pos : String} {after : Array Edge} {g : Option (Nat × Bool)}

/-- A slice's literal, each of its elements told. -/
theorem JO_buildSlice {t e : TypeId} [TU P t (.slice e)] {z : Value} {n k : Nat} [TI P e z n k] {len : Nat} {parts : Array (Nat × Operand)} {xs : List Operand} {vs cs : List Value}
    (hp : inOrder parts.toList 0 = some xs) (hx : evs E xs = some vs) [hc : Cat vs n cs] (hl : vs.length = len) (hb : len * n ≤ 16777216) (hd : dok N d = true)
    (h : ∀ r, next (put E d (.slice (some ⟨r, 0, none⟩) len len)) D (pt r (.cells cs.toArray e (0, 0)) :: L)) :
    JO P N rd ⟨d, .buildSlice t len parts, ty, pos, after, g⟩ E D L next Q :=
  JO_value (fun c => by simp) hd fun F a w hr hs => by
    obtain ⟨i, h1, h2, h3, h4⟩ := TI.h (P := P) (t := e) (z := z) (n := n) (b := k)
    obtain ⟨c1, c2⟩ := hc.h
    have hparts : parts.toList.map (fun (x : Nat × Operand) => (x.1, a.eval x.2)) = (vs.zipIdx 0).map fun (v, i) => (i, v) := by
      have e1 := inOrder_eq _ _ _ hp
      have e2 := hr.evals hx
      rw [e1, ← e2]
      simp [List.zipIdx_map]
    have hfill : ∀ zc : Array Value, Instr.fill (fun i => some (i * n, n)) ((Array.range (len * n)).map (fun j => zc[j % zc.size]!)) (parts.toList.map (fun (x : Nat × Operand) => (x.1, a.eval x.2))) = some cs.toArray := by
      intro zc
      have := fill_row vs n [] ((Array.range (len * n)).map (fun j => zc[j % zc.size]!)).toList c1 (by simp [hl]) 0 (by simp)
      rw [c2, ← hparts] at this
      simp only [List.nil_append, Array.toArray_toList] at this
      exact this
    refine ⟨_, _, _, ?_, (hs.new (.cells cs.toArray e (0, 0))).swap, h _⟩
    have hb' : ¬ (16777216 < len * n) := by omega
    by_cases h0 : len * n = 0
    · have := hfill #[]
      rw [h0, show (Array.range 0).map (fun j => (#[] : Array Value)[j % (#[] : Array Value).size]!) = (Array.range 0).map (fun _ => (default : Value)) from by rw [Array.range_zero']; rfl] at this
      simp [execOp, Instr.buildSlice, run_underlying' (TU.h (P := P) (t := t)), run_sizeOf' h1, h3, h0, this, newRow]
    · simp [execOp, Instr.buildSlice, run_underlying' (TU.h (P := P) (t := t)), run_sizeOf' h1, h3, hb', h0, run_zeroValue' h1 h2, hfill, newRow]
end
end Go.Sp

/- Owned rows that grow (append), rows made whole (make), frozen rows that are read; arrays; bits. -/
namespace Go.Sp
open Go.RowKit

/-- v: a slice with n elements (of sz cells each) whose array is owned, and begins with the cells cs; or nil, and none. -/
def OwnS (e sz : Nat) (v : Value) (n : Nat) (cs : List Value) : HP := fun h => cs.length = n * sz ∧
  ((v = .slice none 0 0 ∧ n = 0) ∨ ∃ b sp cap, v = .slice (some ⟨b, 0, none⟩) n cap ∧ n ≤ cap ∧ cap ≤ maxLen ∧ cs.length + sp.length = cap * sz ∧ h (some b) = some (false, .obj (.cells (cs ++ sp).toArray e (0, 0))))

/-- v: a slice with n elements (of sz cells each), whose cells are cs, frozen. -/
def Vw (sz : Nat) (v : Value) (n : Nat) (cs : List Value) : HP := fun h => cs.length = n * sz ∧ n ≤ maxLen ∧
  ∃ p cap, v = .slice p n cap ∧ (n = 0 ∨ ∃ b o all e fz, p = some ⟨b, o, none⟩ ∧ h (some b) = some (true, .obj (.cells (List.toArray all) e fz)) ∧ ∀ i u, cs[i]? = some u → all[o + i]? = some u)

theorem pers_vw (sz : Nat) (v : Value) (n : Nat) (cs : List Value) : Pers (Vw sz v n cs) := by
  rintro h ⟨h1, h0, p, cap, h2, h3⟩
  refine ⟨h1, h0, p, cap, h2, h3.imp id ?_⟩
  rintro ⟨b, o, all, e, fz, h4, h5, h6⟩
  exact ⟨b, o, all, e, fz, h4, ice_ice h5, h6⟩

theorem Sat.own_cases {w : World} {e sz : Nat} {v : Value} {n : Nat} {cs : List Value} {L : List HP} (h : Sat w (OwnS e sz v n cs :: L)) :
    cs.length = n * sz ∧ ((v = .slice none 0 0 ∧ n = 0 ∧ Sat w L) ∨ ∃ b sp cap, v = .slice (some ⟨b, 0, none⟩) n cap ∧ n ≤ cap ∧ cap ≤ maxLen ∧ cs.length + sp.length = cap * sz ∧ Sat w (pt b (.cells (cs ++ sp).toArray e (0, 0)) :: L)) := by
  have h0 : cs.length = n * sz := h.out (fun _ hk => hk.1)
  refine ⟨h0, ?_⟩
  by_cases hv : v = .slice none 0 0 ∧ n = 0
  · exact .inl ⟨hv.1, hv.2, h.tail⟩
  · right
    have := h.outE (α := Nat × List Value × Nat) (B := fun x k => v = .slice (some ⟨x.1, 0, none⟩) n x.2.2 ∧ n ≤ x.2.2 ∧ x.2.2 ≤ maxLen ∧ cs.length + x.2.1.length = x.2.2 * sz ∧ k (some x.1) = some (false, .obj (.cells (cs ++ x.2.1).toArray e (0, 0)))) (by
      rintro k ⟨_, h1 | ⟨b, sp, cap, h1⟩⟩
      · exact absurd h1 hv
      · exact ⟨(b, sp, cap), h1⟩)
    obtain ⟨⟨b, sp, cap⟩, hs⟩ := this
    have hf := hs.out (φ := v = .slice (some ⟨b, 0, none⟩) n cap ∧ n ≤ cap ∧ cap ≤ maxLen ∧ cs.length + sp.length = cap * sz) (fun k hk => ⟨hk.1, hk.2.1, hk.2.2.1, hk.2.2.2.1⟩)
    exact ⟨b, sp, cap, hf.1, hf.2.1, hf.2.2.1, hf.2.2.2, hs.conv fun k hk => hk.2.2.2.2⟩
theorem Sat.own_block {w : World} {e sz b cap n : Nat} {cs sp : List Value} {L : List HP} (h : Sat w (pt b (.cells (cs ++ sp).toArray e (0, 0)) :: L)) (h0 : cs.length = n * sz) (h1 : n ≤ cap) (h2 : cap ≤ maxLen) (h3 : cs.length + sp.length = cap * sz) :
    Sat w (OwnS e sz (.slice (some ⟨b, 0, none⟩) n cap) n cs :: L) := h.conv fun _ hk => ⟨h0, .inr ⟨b, sp, cap, rfl, h1, h2, h3, hk⟩⟩
theorem Sat.own_nil {w : World} {e sz : Nat} {L : List HP} (h : Sat w L) : Sat w (OwnS e sz (.slice none 0 0) 0 [] :: L) := h.add ⟨by simp, .inl ⟨rfl, rfl⟩⟩
theorem own_wide {e sz : Nat} {v : Value} {n : Nat} {cs : List Value} {h : Part} (hk : OwnS e sz v n cs h) : n ≤ maxLen := by
  obtain ⟨_, ⟨_, rfl⟩ | ⟨b, sp, cap, _, h1, h2, _⟩⟩ := hk
  · simp [maxLen]
  · exact Nat.le_trans h1 h2
theorem own_one {e sz : Nat} {v : Value} {n : Nat} {cs : List Value} {h : Part} (hk : OwnS e sz v n cs h) : v.oneCell' = true := by
  obtain ⟨_, ⟨rfl, _⟩ | ⟨b, sp, cap, rfl, _⟩⟩ := hk <;> rfl
/-- An owned row, frozen. -/
theorem Sat.own_freeze {w : World} {e sz : Nat} {v : Value} {n : Nat} {cs : List Value} {L : List HP} (h : Sat w (OwnS e sz v n cs :: L)) : Sat w (Vw sz v n cs :: L) := by
  have hw : n ≤ maxLen := h.out (fun _ => own_wide)
  obtain ⟨h0, ⟨rfl, rfl, hs⟩ | ⟨b, sp, cap, rfl, h1, h2, h3, hs⟩⟩ := h.own_cases
  · exact hs.add ⟨h0, hw, none, 0, rfl, .inl rfl⟩
  · exact hs.freeze.conv fun k hk => ⟨h0, hw, some ⟨b, 0, none⟩, cap, rfl, .inr ⟨b, 0, cs ++ sp, e, (0, 0), rfl, hk, fun i u hu => by
      rw [Nat.zero_add, List.getElem?_append_left (List.getElem?_eq_some_iff.1 hu).1]; exact hu⟩⟩

theorem length_cells_pos {z : Value} {sz : Nat} (h : z.cells.size = sz) (n : Nat) : (Builtin.zeroCells z.cells n).toList.length = n * sz := by
  simp [Builtin.zeroCells, h]

theorem append_nil_nil {P : Program} {w : World} {t e ty : TypeId} {i : TypeInfo} (ht : P.underlying t = some (.slice e)) (hi : P.info? e = some i) (a : Addr) (c : Nat) :
    (Builtin.append_ #[t, t] ty #[.slice none 0 0, .slice (some a) 0 c]).run P w = .ok (.slice none 0 0) w := by
  simp [Builtin.append_, run_underlying ht, sizeOf, typeInfo, hi, Builtin.lenOf, Builtin.firstCells, loadCells, loadCellsFrom]
theorem append_nothing {P : Program} {w : World} {t e ty : TypeId} {i : TypeInfo} (ht : P.underlying t = some (.slice e)) (hi : P.info? e = some i) (p : Option Addr) (n cap : Nat) (hn : n ≤ cap) (u : Value) (hu : ∃ q c, u = .slice q 0 c) :
    (Builtin.append_ #[t, t] ty #[.slice p n cap, u]).run P w = .ok (.slice p n cap) w := by
  obtain ⟨q, c, rfl⟩ := hu
  cases p <;> cases q <;> simp [Builtin.append_, run_underlying ht, sizeOf, typeInfo, hi, Builtin.lenOf, Builtin.firstCells, loadCells, loadCellsFrom, hn, storeCells]

/-- The built-in append, on an owned row; what is appended stands in memory. -/
theorem sat_append {P : Program} {w : World} {L : List HP} {t e ty sz k : Nat} {z : Value} (ht : P.underlying t = some (.slice e)) [TI P e z sz k] (hzs : z.cells.size = sz) (_ : 0 < sz) {v : Value} {n : Nat} {cs : List Value}
    (hs : Sat w (OwnS e sz v n cs :: L)) {p : Option Addr} {m c : Nat} {news : List Value} (hl : news.length = m * sz) (hr : m = 0 ∨ ∃ a, p = some a ∧ ∀ j u, news[j]? = some u → w.cell? (a.add j) = some u) (h1 : ∀ u ∈ news, u.oneCell' = true)
    (hb : (n + m) * k ≤ 140737488355328) (hk : 0 < k) :
    ∃ v' w', (Builtin.append_ #[t, t] ty #[v, .slice p m c]).run P w = .ok v' w' ∧ Sat w' (OwnS e sz v' (n + m) (cs ++ news) :: L) := by
  obtain ⟨i, hi, hz, hsize, hbytes⟩ := TI.h (P := P) (t := e) (z := z) (n := sz) (b := k)
  have hnm : n + m ≤ (n + m) * k := Nat.le_mul_of_pos_right _ hk
  have hml : n + m ≤ maxLen := by simp [maxLen]; omega
  obtain ⟨h0, hcase⟩ := hs.own_cases
  by_cases hm : m = 0
  · subst hm
    have hnews : news = [] := by simpa using hl
    subst hnews
    rcases hcase with ⟨rfl, rfl, hs'⟩ | ⟨b, sp, cap, rfl, hle, hcm, hlen, hs'⟩
    · exact ⟨_, w, append_nothing ht hi none 0 0 (Nat.le_refl _) _ ⟨p, c, rfl⟩, by simpa using hs⟩
    · exact ⟨_, w, append_nothing ht hi _ n cap hle _ ⟨p, c, rfl⟩, by simpa using hs⟩
  · obtain ⟨a, rfl, hr2⟩ := hr.resolve_left hm
    have hl' : news.length = m * i.size := by rw [hsize]; exact hl
    rcases hcase with ⟨rfl, rfl, hs'⟩ | ⟨b, sp, cap, rfl, hle, hcm, hlen, hs'⟩
    · have hcs : cs = [] := by simpa using h0
      subst hcs
      have hrun := run_append_nil (P := P) w t ty e i z ht hi hz a m c news hl' hr2 (by omega) (by omega) (by rw [hbytes]; simp only [Nat.zero_add] at hb; omega)
      refine ⟨_, _, hrun, ?_⟩
      have hge := grownCap_ge w m 0 e
      have hmx := grownCap_le_maxLen w m 0 e (by simpa using hml)
      have hnew := (hs'.world (w' := w.drew) rfl).new (.cells (news ++ (Builtin.zeroCells z.cells (grownCap w m 0 e - m)).toList).toArray e)
      have hsz2 : w.drew.heap.size = w.heap.size := rfl
      rw [hsz2] at hnew
      have hcells : (news ++ (Builtin.zeroCells z.cells (grownCap w m 0 e - m)).toList).toArray = news.toArray ++ Builtin.zeroCells z.cells (grownCap w m 0 e - m) := by apply Array.ext'; simp
      have h3 : news.length + (Builtin.zeroCells z.cells (grownCap w m 0 e - m)).toList.length = grownCap w m 0 e * sz := by
        rw [length_cells_pos hzs, hl, ← Nat.add_mul]; congr 1; omega
      have := Sat.own_block (n := m) (sz := sz) (cap := grownCap w m 0 e) hnew hl hge hmx h3
      rw [hcells] at this
      simp only [Nat.zero_add, List.nil_append]
      exact this
    · by_cases hfit : n + m ≤ cap
      · have hroom := run_append_room (P := P) w t ty e i ht hi b n cap (cs ++ sp).toArray hs'.pt_heap a m c news hl' hr2 h1 hfit (by
          rw [hsize, hl]; simp only [List.size_toArray, List.length_append]; rw [hlen, ← Nat.add_mul]; exact Nat.mul_le_mul_right _ hfit)
        refine ⟨_, _, hroom, ?_⟩
        rw [hsize] at *
        have e1 : (cs ++ sp).take (n * sz) = cs := by rw [← h0]; simp
        have e2 : (cs ++ sp).drop (n * sz + news.length) = sp.drop news.length := by rw [← h0]; simp
        rw [e1, e2]
        have hb1 := hs'.pt_heap
        have hb2 := (Array.getElem?_eq_some_iff.1 hb1).1
        have hs3 : Sat (w.setRow b (cs ++ news ++ sp.drop news.length).toArray) (pt b (.cells (cs ++ news ++ sp.drop news.length).toArray e (0, 0)) :: L) := by
          refine hs'.grown rfl rfl rfl (fun k hk hne => ?_) ?_
          · simp [World.setRow, Array.getElem?_modify, Ne.symm hne]
          · simp [World.setRow, Array.getElem?_modify, hb1]
        refine Sat.own_block hs3 ?_ hfit hcm ?_
        · simp [h0, hl, Nat.add_mul]
        · simp only [List.length_append, List.length_drop]
          have : news.length ≤ sp.length := by
            have := Nat.mul_le_mul_right sz hfit
            rw [Nat.add_mul, ← hlen, ← hl, ← h0] at this
            omega
          omega
      · have hgrow := run_append_grow (P := P) w t ty e i z ht hi hz ⟨b, 0, none⟩ n cap cs (by rw [hsize]; exact h0) (fun j u hj => by
            rw [addr_add, Nat.zero_add]
            exact cell_of hs'.pt_heap (by rw [List.getElem?_append_left (List.getElem?_eq_some_iff.1 hj).1]; exact hj)) a m c news hl' hr2 (by omega) (by omega)
            (growslice_fits (by omega) (by rw [hbytes]; exact hb))
        refine ⟨_, _, hgrow, ?_⟩
        have hge := grownCap_ge w (n + m) cap e
        have hmx := grownCap_le_maxLen w (n + m) cap e hml
        have hnew := ((hs'.tail).world (w' := w.drew) rfl).new (.cells (cs ++ news ++ (Builtin.zeroCells z.cells (grownCap w (n + m) cap e - (n + m))).toList).toArray e)
        have hsz2 : w.drew.heap.size = w.heap.size := rfl
        rw [hsz2] at hnew
        have hcells : (cs ++ news ++ (Builtin.zeroCells z.cells (grownCap w (n + m) cap e - (n + m))).toList).toArray = cs.toArray ++ news.toArray ++ Builtin.zeroCells z.cells (grownCap w (n + m) cap e - (n + m)) := by apply Array.ext'; simp
        have h3 : (cs ++ news).length + (Builtin.zeroCells z.cells (grownCap w (n + m) cap e - (n + m))).toList.length = grownCap w (n + m) cap e * sz := by
          rw [length_cells_pos hzs, List.length_append, h0, hl, ← Nat.add_mul, ← Nat.add_mul]; congr 1; omega
        have := Sat.own_block (n := n + m) (sz := sz) (cap := grownCap w (n + m) cap e) hnew (by simp [h0, hl, Nat.add_mul]) hge hmx h3
        rw [hcells] at this
        exact this

/-- An owned row, found by its value. -/
class TkO (v : Value) (L : List HP) (e sz n : outParam Nat) (cs : outParam (List Value)) (M : outParam (List HP)) : Prop where h : L.Perm (OwnS e sz v n cs :: M)
instance tko_head (v : Value) (e sz n : Nat) (cs : List Value) (L : List HP) : TkO v (OwnS e sz v n cs :: L) e sz n cs L := ⟨.refl _⟩
instance (priority := low) tko_tail (v : Value) (A : HP) (e sz n : Nat) (cs : List Value) (L M : List HP) [h : TkO v L e sz n cs M] : TkO v (A :: L) e sz n cs (A :: M) := ⟨(h.h.cons A).trans (List.Perm.swap _ _ _)⟩

/-- A frozen row, found by its value. -/
class HV (L : List HP) (v : Value) (sz n : outParam Nat) (cs : outParam (List Value)) : Prop where h : ∀ (F : HP) (w : World), Sat w (F :: L) → ∃ M, Sat w (Vw sz v n cs :: M)
instance hv_head (v : Value) (sz n : Nat) (cs : List Value) (L : List HP) : HV (Vw sz v n cs :: L) v sz n cs := ⟨fun _ _ hs => ⟨_, hs.tail⟩⟩
instance (priority := low) hv_tail (A : HP) (v : Value) (sz n : Nat) (cs : List Value) (L : List HP) [h : HV L v sz n cs] : HV (A :: L) v sz n cs := ⟨fun _ _ hs => h.h A _ hs.tail⟩

/-- What a slice's cells read as. -/
def Rds (L : List HP) (u : Value) (m : Nat) (cs : List Value) : Prop := ∃ p c, u = .slice p m c ∧ ∀ (F : HP) (w : World), Sat w (F :: L) → m = 0 ∨ ∃ a, p = some a ∧ ∀ j x, cs[j]? = some x → w.cell? (a.add j) = some x

section
variable {P : Program} {N : Nat} {rd : Option Nat} {E : Env} {D : List Deferred} {L : List HP} {Q : Post} {next : Env → List Deferred → List HP → Prop}
variable {d : Option Nat} {ty : TypeId} {pos : String} {after : Array Edge} {g : Option (Nat × Bool)}

/-- append, whatever is appended. -/
theorem JO_append {x y : Operand} {t e sz n m k : Nat} [TU P t (.slice e)] {z : Value} [TI P e z sz k] {v u : Value} {cs news : List Value} {M : List HP} (hx : ev E x = some v) (hy : ev E y = some u)
    [ho : TkO v L e sz n cs M] (hr : Rds L u m news) (hzs : z.cells.size = sz) (hsz : 0 < sz) (hl : news.length = m * sz) (h1 : ∀ u ∈ news, u.oneCell' = true) (hb : (n + m) * k ≤ 140737488355328) (hk : 0 < k)
    (hd : dok N d = true) (h : ∀ v', v'.oneCell' = true → next (put E d v') D (OwnS e sz v' (n + m) (cs ++ news) :: M)) : JO P N rd ⟨d, .call ⟨.builtin .append, #[x, y], #[t, t]⟩, ty, pos, after, g⟩ E D L next Q :=
  JO_value (fun c => by simp) hd fun F a w hr' hs => by
    obtain ⟨p, c, rfl, hrd⟩ := hr
    have hs1 : Sat w (OwnS e sz v n cs :: F :: M) := (hs.perm (ho.h.cons F)).swap
    obtain ⟨v', w', h2, h3⟩ := sat_append (P := P) (t := t) (ty := ty) (c := c) TU.h hzs hsz hs1 hl (hrd F w hs) h1 hb hk
    exact ⟨v', w', _, by simp [execOp, resolve, invoke, builtin, hr'.eval hx, hr'.eval hy, h2], h3.swap, h v' (h3.out fun _ hk => own_one hk)⟩

theorem rds_block {r m c : Nat} {cs : List Value} {bt : TypeId} {fz : Nat × Nat} [hb : HB L r (.cells cs.toArray bt fz)] : Rds L (.slice (some ⟨r, 0, none⟩) m c) m cs :=
  ⟨_, _, rfl, fun F w hs => .inr ⟨_, rfl, fun j x hj => by rw [addr_add, Nat.zero_add]; exact cell_of (hb.h F w hs) hj⟩⟩
/-- append of elements that stand in a block known cell by cell (append(l, x)). -/
theorem JO_appendB {x y : Operand} {t e sz n m k r c : Nat} [TU P t (.slice e)] {z : Value} [TI P e z sz k] {v : Value} {cs news : List Value} {M : List HP} {bt : TypeId} {fz : Nat × Nat} (hx : ev E x = some v) (hy : ev E y = some (.slice (some ⟨r, 0, none⟩) m c))
    [ho : TkO v L e sz n cs M] [HB L r (.cells news.toArray bt fz)] (hzs : z.cells.size = sz) (hsz : 0 < sz) (hl : news.length = m * sz) (h1 : ∀ u ∈ news, u.oneCell' = true) (hb : (n + m) * k ≤ 140737488355328) (hk : 0 < k)
    (hd : dok N d = true) (h : ∀ v', v'.oneCell' = true → next (put E d v') D (OwnS e sz v' (n + m) (cs ++ news) :: M)) : JO P N rd ⟨d, .call ⟨.builtin .append, #[x, y], #[t, t]⟩, ty, pos, after, g⟩ E D L next Q :=
  JO_append hx hy rds_block hzs hsz hl h1 hb hk hd h
theorem rds_vw {v : Value} {sz n : Nat} {cs : List Value} [hv : HV L v sz n cs] (hp : ∃ p c, v = .slice p n c) : Rds L v n cs := by
  obtain ⟨p, c, rfl⟩ := hp
  refine ⟨p, c, rfl, fun F w hs => ?_⟩
  obtain ⟨M, hM⟩ := hv.h F w hs
  obtain ⟨k, ⟨a, b, _, hle, _, hV, _⟩, m⟩ := hM
  obtain ⟨h1, _, p', cap, h2, h3⟩ := hV
  cases h2
  refine h3.imp id ?_
  rintro ⟨b, o, all, e, fz, rfl, h5, h6⟩
  exact ⟨_, rfl, fun j x hj => by rw [addr_add]; exact cell_of (at_obj (m _ _ (hle _ _ h5))) (h6 j x hj)⟩

/-- make, of as many as it can hold; of elements of one cell. -/
theorem JO_make {x y : Operand} {t e k : Nat} [TU P t (.slice e)] {z : Value} [TI P e z 1 k] {n : Nat} {ik jk : IntKind} (hx : ev E x = some (.int ik (n : Int))) (hy : ev E y = some (.int jk (n : Int))) (hz : z.cells = #[z]) (hb : k * n ≤ 281474976710656) (hn : n ≤ maxLen)
    (hd : dok N d = true) (h : ∀ b, next (put E d (.slice (some ⟨b, 0, none⟩) n n)) D (pt b (.cells (List.replicate n z).toArray e (0, 0)) :: L)) : JO P N rd ⟨d, .makeSlice t x y, ty, pos, after, g⟩ E D L next Q :=
  JO_value (fun c => by simp) hd fun F a w hr hs => by
    obtain ⟨i, h1, h2, h3, h4⟩ := TI.h (P := P) (t := e) (z := z) (n := 1) (b := k)
    have hb' : (i.bytes : Int) * (n : Int) ≤ 281474976710656 := by rw [h4, ← Int.natCast_mul]; omega
    have hr2 := run_make (P := P) w t e i z TU.h h1 h2 ik jk n n (by omega) (Int.le_refl _) hb' (by simp [maxLen] at hn; omega)
    have e1 : madeCells z.cells ((n : Int).toNat * i.size) = (List.replicate n z).toArray := by
      apply Array.ext'
      rw [hz, h3, Nat.mul_one, Int.toNat_natCast, toList_madeCells_one]
    rw [e1] at hr2
    simp only [Int.toNat_natCast] at hr2
    exact ⟨_, _, _, by simp [execOp, hr.eval hx, hr.eval hy, hr2], (hs.new _).swap, h _⟩

/-- An element's place, in a frozen row. -/
theorem JO_indexV {t e sz k : Nat} [TU P t (.slice e)] {z : Value} [TI P e z sz k] {x y : Operand} {p : Option Addr} {n cap j : Nat} {cs : List Value} {ik : IntKind} (hx : ev E x = some (.slice p n cap)) (hy : ev E y = some (.int ik (j : Int)))
    [hv : HV L (.slice p n cap) sz n cs] (hj : j < n) (hd : dok N d = true) (h : ∀ b o, (∀ i u, i < sz → cs[j * sz + i]? = some u → Lds L ⟨b, o + i, none⟩ u) → next (put E d (.pointer (some ⟨b, o, none⟩))) D L) :
    JO P N rd ⟨d, .indexAddr t x y, ty, pos, after, g⟩ E D L next Q := by
  intro F a w hr hs
  obtain ⟨M, hM⟩ := hv.h F w hs
  obtain ⟨kk, ⟨_, _, _, hle, _, hV, _⟩, m⟩ := hM
  obtain ⟨h1, _, p', cap', h2, h3⟩ := hV
  cases h2
  obtain ⟨b, o, all, e', fz, rfl, h5, h6⟩ := h3.resolve_left (by omega)
  refine JO_index hx hy hj hd (h b (o + j * sz) fun i u hi hu F' w' hs' => ?_) F a w hr hs
  obtain ⟨M', hM'⟩ := hv.h F' w' hs'
  obtain ⟨kk', ⟨_, _, _, hle', _, hV', _⟩, m'⟩ := hM'
  obtain ⟨_, _, p'', cap'', h2', h3'⟩ := hV'
  cases h2'
  obtain ⟨b', o', all', e'', fz', hb', h5', h6'⟩ := h3'.resolve_left (by omega)
  cases hb'
  rw [Nat.add_assoc]
  exact cell_of (at_obj (m' _ _ (hle' _ _ h5'))) (h6' _ _ hu)
theorem JO_indexV1 {t e k : Nat} [TU P t (.slice e)] {z : Value} [TI P e z 1 k] {x y : Operand} {p : Option Addr} {n cap j : Nat} {cs : List Value} {ik : IntKind} (hx : ev E x = some (.slice p n cap)) (hy : ev E y = some (.int ik (j : Int)))
    [hv : HV L (.slice p n cap) 1 n cs] (hj : j < n) (u : Value) (hu : cs[j]? = some u) (hd : dok N d = true) (h : ∀ b o, Lds L ⟨b, o, none⟩ u → next (put E d (.pointer (some ⟨b, o, none⟩))) D L) :
    JO P N rd ⟨d, .indexAddr t x y, ty, pos, after, g⟩ E D L next Q :=
  JO_indexV hx hy hj hd fun b o hl => h b o (by have := hl 0 u (by omega) (by simpa using hu); simpa using this)

/-- A whole struct, told cell by cell. -/
theorem JO_loadAL {t n : TypeId} [TA P t n] {x : Operand} {b o : Nat} (cs : List Value) (hx : ev E x = some (.pointer (some ⟨b, o, none⟩))) (hl : ∀ i u, cs[i]? = some u → Lds L ⟨b, o + i, none⟩ u) (hn : cs.length = n)
    (hd : dok N d = true) (h : next (put E d (.agg cs.toArray)) D L) : JO P N rd ⟨d, .load t x, ty, pos, after, g⟩ E D L next Q :=
  JO_value (fun c => by simp) hd fun F a w hr hs => ⟨_, w, L, by
    obtain ⟨_, i, hi, hsz⟩ := TA.h (P := P) (t := t) (n := n)
    have := run_loadCells_list (P := P) (w := w) ⟨b, o, none⟩ cs (fun j v hj => by rw [addr_add]; exact hl j v hj F w hs)
    rw [hn] at this
    simp [execOp, Instr.loadAt, Instr.sureAddr, hr.eval hx, loadVar, run_isAggA (P := P) (t := t) (n := n), run_sizeOf' hi, hsz, this], hs, h⟩

/-- A store of one cell into a row that is owned. -/
theorem JO_storeS {t : TypeId} {z : Value} {k : Nat} [TI P t z 1 k] {x y : Operand} {b off : Nat} {cs : List Value} {bt : TypeId} {v : Value} {L' : Obj → List HP} (hx : ev E x = some (.pointer (some ⟨b, off, none⟩))) (hy : ev E y = some v)
    [hb : WB L b (.cells cs.toArray bt (0, 0)) L'] (ho : off < cs.length) (hv : v.oneCell' = true) (hd : dok N d = true) (h : next (put E d undef) D (L' (.cells (cs.set off v).toArray bt (0, 0)))) : JO P N rd ⟨d, .store t x y, ty, pos, after, g⟩ E D L next Q :=
  JO_unit (fun c => by simp) hd fun F a w hr hs' => by
    obtain ⟨i, h1, h2, h3, h4⟩ := TI.h (P := P) (t := t) (z := z) (n := 1) (b := k)
    obtain ⟨hb1, hb2⟩ := hb.h F w hs'
    have hc := One.cells hv
    have hst := run_storeCell (P := P) hb1 (List.getElem?_eq_getElem ho) hv
    refine ⟨_, _, ?_, hb2 _, h⟩
    simp [execOp, Instr.storeAt, Instr.sureAddr, hr.eval hx, hr.eval hy, storeVar, hc, run_sizeOf' h1, h3, storeCells, Addr.add, hst]

/-- An array's element. -/
theorem JO_indexArr {t e len k : Nat} [TU P t (.array len e)] [T1 P e] {z : Value} [TI P e z 1 k] {x y : Operand} {cs : List Value} {j : Nat} {ik : IntKind} {v : Value} (hx : ev E x = some (.agg cs.toArray)) (hy : ev E y = some (.int ik (j : Int))) (hj : j < len)
    (hv : cs[j]? = some v) (hd : dok N d = true) (h : next (put E d v) D L) : JO P N rd ⟨d, .index t x y, ty, pos, after, g⟩ E D L next Q :=
  JO_pure _ (fun c => by simp) hd (fun a w hr => by
    obtain ⟨i, h1, h2, h3, h4⟩ := TI.h (P := P) (t := e) (z := z) (n := 1) (b := k)
    have h5 : ¬ len ≤ j := by omega
    simp [execOp, Instr.index, hr.eval hx, hr.eval hy, asIntOf, run_underlying' (TU.h (P := P) (t := t)), run_sizeOf' h1, h3, part, run_isAgg1 (P := P) (t := e), hv, h5]) h

/-- s == nil. -/
theorem JO_eqNilS {t e u : Nat} [TU P t (.slice e)] {x : Operand} {p : Option Addr} {n c : Nat} (hx : ev E x = some (.slice p n c)) (hd : dok N d = true) (h : next (put E d (.bool p.isNone)) D L) :
    JO P N rd ⟨d, .binOp .eql t x (.const (.slice none 0 0)) u, ty, pos, after, g⟩ E D L next Q :=
  JO_pure _ (fun c => by simp) hd (fun a w hr => by
    have h2 : (binOp .eql t (.slice p n c) (.slice none 0 0)).run P w = .ok (.bool p.isNone) w := Lib.run_eql_slice_nil w t e p n c 0 0 TU.h
    have h3 : a.eval (.const (.slice none 0 0)) = .slice none 0 0 := rfl
    simp [execOp, hr.eval hx, h3, eqGuard, h2]) h

/-! ### Bits -/
def ibits (op : BinOp) (k : IntKind) (x y : Int) : Int :=
  k.wrap (match op with
    | .and => (BitVec.ofInt k.bits x &&& BitVec.ofInt k.bits y).toNat
    | .or => (BitVec.ofInt k.bits x ||| BitVec.ofInt k.bits y).toNat
    | .xor => (BitVec.ofInt k.bits x ^^^ BitVec.ofInt k.bits y).toNat
    | _ => (BitVec.ofInt k.bits x &&& ~~~BitVec.ofInt k.bits y).toNat)
theorem JO_and {x y : Operand} {m n : Int} {t u : TypeId} {k : IntKind} (hx : ev E x = some (.int k m)) (hy : ev E y = some (.int k n)) (hd : dok N d = true) (h : next (put E d (.int k (ibits .and k m n))) D L) : JO P N rd ⟨d, .binOp .and t x y u, ty, pos, after, g⟩ E D L next Q :=
  JO_pure _ (fun c => by simp) hd (fun a w hr => by simp [execOp, hr.eval hx, hr.eval hy, eqGuard, binOp, Op.intBits, ibits]) h
theorem JO_or {x y : Operand} {m n : Int} {t u : TypeId} {k : IntKind} (hx : ev E x = some (.int k m)) (hy : ev E y = some (.int k n)) (hd : dok N d = true) (h : next (put E d (.int k (ibits .or k m n))) D L) : JO P N rd ⟨d, .binOp .or t x y u, ty, pos, after, g⟩ E D L next Q :=
  JO_pure _ (fun c => by simp) hd (fun a w hr => by simp [execOp, hr.eval hx, hr.eval hy, eqGuard, binOp, Op.intBits, ibits]) h
theorem JO_xor {x y : Operand} {m n : Int} {t u : TypeId} {k : IntKind} (hx : ev E x = some (.int k m)) (hy : ev E y = some (.int k n)) (hd : dok N d = true) (h : next (put E d (.int k (ibits .xor k m n))) D L) : JO P N rd ⟨d, .binOp .xor t x y u, ty, pos, after, g⟩ E D L next Q :=
  JO_pure _ (fun c => by simp) hd (fun a w hr => by simp [execOp, hr.eval hx, hr.eval hy, eqGuard, binOp, Op.intBits, ibits]) h
theorem JO_andNot {x y : Operand} {m n : Int} {t u : TypeId} {k : IntKind} (hx : ev E x = some (.int k m)) (hy : ev E y = some (.int k n)) (hd : dok N d = true) (h : next (put E d (.int k (ibits .andNot k m n))) D L) : JO P N rd ⟨d, .binOp .andNot t x y u, ty, pos, after, g⟩ E D L next Q :=
  JO_pure _ (fun c => by simp) hd (fun a w hr => by simp [execOp, hr.eval hx, hr.eval hy, eqGuard, binOp, Op.intBits, ibits]) h

/-- A conversion between kinds of whole numbers. -/
theorem JO_conv {src dst : TypeId} {k k' : IntKind} {sd : TypeDesc} [TU P src sd] [TU P dst (.int k')] {x : Operand} {n : Int} (hx : ev E x = some (.int k n)) (hd : dok N d = true) (h : next (put E d (.int k' (k'.wrap n))) D L) : JO P N rd ⟨d, .convert src dst x, ty, pos, after, g⟩ E D L next Q :=
  JO_pure _ (fun c => by simp) hd (fun a w hr => by simp [execOp, hr.eval hx, convert, run_underlying' (TU.h (P := P) (t := src)), run_underlying' (TU.h (P := P) (t := dst)), Conv.intToInt]) h

/-- An operation that reckons something closed, by the kernel. -/
theorem JO_run {o : Oper} (v : Value) (hnd : ∀ c, o.op ≠ .defer c) (h : ∀ (a : Act) (w : World), Rep N E D a → (execOp a.eval o).run P w = .ok (.value v) w) (hd : dok N o.dst = true) (hn : next (put E o.dst v) D L) : JO P N rd o E D L next Q :=
  JO_pure v hnd hd h hn

/-- A result that lies in memory. -/
theorem res_cell {fn : Func} {t ty b n : Nat} {cs : List Value} {bt : TypeId} {fz : Nat × Nat} [TA P ty n] (h : fn.results = #[.cell t ty]) (hv : Env.get E t = some (.pointer (some ⟨b, 0, none⟩))) [hb : HB L b (.cells cs.toArray bt fz)] (hn : cs.length = n) :
    Res P N fn E L (.agg cs.toArray) := fun F a w _ hr hs => by
  have h1 : (a.tmps.getD t undef) = .pointer (some ⟨b, 0, none⟩) := hr.eval (x := .tmp t) hv
  obtain ⟨_, i, hi, hsz⟩ := TA.h (P := P) (t := ty) (n := n)
  have h2 := run_loadCells_block (P := P) (off := 0) (n := n) (hb.h F w hs) (by omega)
  rw [List.drop_zero, List.take_of_length_le (by omega)] at h2
  have h3 : (asAddr (a.tmps[t]?.getD undef)).run P w = .ok ⟨b, 0, none⟩ w := by
    have : a.tmps[t]?.getD undef = a.tmps.getD t undef := by simp
    rw [this, h1]; rfl
  simp [results, h, h3, loadVar, run_isAggA (P := P) (t := ty) (n := n), run_sizeOf' hi, hsz, h2]
end
end Go.Sp

/- Contracts that leave what they read; literals as owned rows; what is known of integers in rows. -/
namespace Go.Sp
open Go.RowKit

class PersA (A : HP) : Prop where h : Pers A
instance (b : Nat) (o : Obj) : PersA (ro b o) := ⟨pers_ro b o⟩
instance (sz : Nat) (v : Value) (n : Nat) (cs : List Value) : PersA (Vw sz v n cs) := ⟨pers_vw sz v n cs⟩
instance (w : World) : PersA (Base w) := ⟨pers_base w⟩
class PersK (K : List HP) : Prop where h : ∀ A ∈ K, Pers A
instance : PersK [] := ⟨by simp⟩
instance (A : HP) (K : List HP) [h1 : PersA A] [h2 : PersK K] : PersK (A :: K) := ⟨fun B hB => by
  rcases List.mem_cons.1 hB with rfl | hB
  · exact h1.h
  · exact h2.h B hB⟩

theorem Sat.dups {w : World} {L : List HP} : ∀ {K : List HP}, (∀ A ∈ K, Pers A) → Sat w (K ++ L) → Sat w (K ++ (K ++ L)) := by
  intro K
  induction K generalizing L with
  | nil => exact fun _ h => h
  | cons A K ih =>
    intro hp h
    have h1 : Sat w (A :: A :: (K ++ L)) := Sat.dup h (hp A (by simp))
    have h2 : Sat w (K ++ (A :: A :: L)) := h1.perm (by
      have e1 : (A :: A :: (K ++ L)).Perm (A :: (K ++ A :: L)) := (List.perm_middle.symm).cons A
      exact e1.trans List.perm_middle.symm)
    have h3 := ih (fun B hB => hp B (by simp [hB])) h2
    refine h3.perm ?_
    have e2 : (K ++ (K ++ A :: A :: L)).Perm (A :: A :: (K ++ (K ++ L))) := by
      have a1 : (K ++ A :: A :: L).Perm (A :: A :: (K ++ L)) := List.perm_middle.trans (List.perm_middle.cons A)
      have a2 : (K ++ (K ++ A :: A :: L)).Perm (K ++ (A :: A :: (K ++ L))) := a1.append_left K
      exact a2.trans (List.perm_middle.trans (List.perm_middle.cons A))
    refine e2.trans ?_
    show (A :: A :: (K ++ (K ++ L))).Perm (A :: (K ++ (A :: (K ++ L))))
    exact (List.perm_middle.symm).cons A

theorem Ct.useP {P : Program} {f : FuncId} {args : Array Value} {L K M : List HP} {R : Ending → List HP → Prop} (h : Ct P f args K R) [hs : Sel K L M] [hp : PersK K] : Ct P f args L fun e L'' => ∃ L', R e L' ∧ L'' = L' ++ L := by
  have h1 := h.frame L
  refine Ct.heap (fun F w s => ?_) h1
  have s1 : Sat w (K ++ (F :: M)) := s.perm ((hs.h.cons F).trans List.perm_middle.symm)
  have s2 := Sat.dups hp.h s1
  refine s2.perm ?_
  have e1 : (K ++ (K ++ F :: M)).Perm (F :: (K ++ (K ++ M))) := (List.perm_middle.append_left K).trans List.perm_middle
  exact e1.trans (((hs.h.symm.append_left K)).cons F)

theorem Sat.own_lit {w : World} {e sz b n : Nat} {cs : List Value} {L : List HP} (h : Sat w (pt b (.cells cs.toArray e (0, 0)) :: L)) (h0 : cs.length = n * sz) (h2 : n ≤ maxLen) :
    Sat w (OwnS e sz (.slice (some ⟨b, 0, none⟩) n n) n cs :: L) := Sat.own_block (sp := []) (by simpa using h) h0 (Nat.le_refl _) h2 (by simpa using h0)

/-- What follows from what is held. -/
def Ent (L L' : List HP) : Prop := ∀ (F : HP) (w : World), Sat w (F :: L) → Sat w (F :: L')
theorem Ent.refl (L : List HP) : Ent L L := fun _ _ h => h
theorem Ent.trans {L M K : List HP} (h : Ent L M) (k : Ent M K) : Ent L K := fun F w s => k F w (h F w s)
theorem Ent.sel {L K M : List HP} [h : Sel K L M] : Ent L K := fun F _ s => (s.perm (h.h.cons F)).sub ((List.sublist_append_left K M).cons_cons F)
theorem Ent.head {A B : HP} {L : List HP} (hab : ∀ (w : World) (M : List HP), Sat w (A :: M) → Sat w (B :: M)) : Ent (A :: L) (B :: L) := fun _ w hs => (hab w _ hs.swap).swap
theorem Ent.cons {A : HP} {L : List HP} (hab : ∀ (w : World) (M : List HP), Sat w M → Sat w (A :: M)) : Ent L (A :: L) := fun _ w hs => (hab w _ hs).swap
theorem Ent.keep {A : HP} {L M : List HP} (h : Ent L M) : Ent (A :: L) (A :: M) := fun F w hs => by
  have h1 : Sat w (Star [F, A] :: L) := (Sat.fold (L1 := [F, A])).1 hs
  exact (Sat.fold (L1 := [F, A])).2 (h _ w h1)

/-- A function's contract from its body; what it leaves may be turned. -/
theorem fn_ret {P : Program} {N : Nat} {L : List HP} {f : FuncId} {fn : Func} {c : Code} {vs : List Value} {R : Ending → List HP → Prop} (hf : P.funcs[f]? = some fn) (hb : fn.body = some c) (hn : fn.ntmps = N) (hN : vs.length ≤ N)
    (h : J P N none c (argEnv 0 vs) [] L (bodyQ P N fn fun e L => ∃ L', Ent L L' ∧ R e L')) : Ct P f vs.toArray L R := fun F w hs =>
  (fn_body hf hb hn hN h F w hs).mono fun _ w' ⟨hne, _, ⟨L2, he, hr⟩, s⟩ => ⟨hne, L2, hr, he F w' s⟩

/-- It returns a value, and leaves this; it panics with no value. -/
def RetE {α : Type} (φ : α → Prop) (v : α → Value) (L0 : α → List HP) : Ending → List HP → Prop := fun e L => ∃ x, φ x ∧ e = .returned (v x) ∧ L = L0 x
def RetV (v : Value) (L0 : List HP) : Ending → List HP → Prop := fun e L => e = .returned v ∧ L = L0
class AppH (K M : List HP) (L : outParam (List HP)) : Prop where h : K ++ M = L
instance (M : List HP) : AppH [] M M := ⟨rfl⟩
instance (A : HP) (K M L : List HP) [h : AppH K M L] : AppH (A :: K) M (A :: L) := ⟨by simp [h.h]⟩

section
variable {P : Program} {N : Nat} {rd : Option Nat} {E : Env} {D : List Deferred} {L : List HP} {Q : Post} {next : Env → List Deferred → List HP → Prop}
variable {d : Option Nat} {ty : TypeId} {pos : String} {after : Array Edge} {g : Option (Nat × Bool)}
theorem JO_callE {α : Type} {φ : α → Prop} {v : α → Value} {L0 : α → List HP} {K M : List HP} {L1 : α → List HP} {f : FuncId} [hf : CF P f] {args : Array Operand} {ts : Array TypeId} {vs : List Value} (hx : evs E args.toList = some vs)
    (hc : Ct P f vs.toArray K (RetE φ v L0)) [hs : Sel K L M] [ha : ∀ x, AppH (L0 x) M (L1 x)] (hd : dok N d = true) (h : ∀ x, φ x → next (put E d (v x)) D (L1 x)) : JO P N rd ⟨d, .call ⟨.value (.func f), args, ts⟩, ty, pos, after, g⟩ E D L next Q :=
  JO_call hx hc.use hd (fun _ _ ⟨_, ⟨x, hφ, he, hL⟩, hL'⟩ => by cases he; rw [hL', hL, (ha x).h]; exact h x hφ) (fun _ _ ⟨_, ⟨_, _, he, _⟩, _⟩ => by cases he)
theorem JO_callV' {v : Value} {L0 K M L1 : List HP} {f : FuncId} [hf : CF P f] {args : Array Operand} {ts : Array TypeId} {vs : List Value} (hx : evs E args.toList = some vs)
    (hc : Ct P f vs.toArray K (RetV v L0)) [hs : Sel K L M] [ha : AppH L0 M L1] (hd : dok N d = true) (h : next (put E d v) D L1) : JO P N rd ⟨d, .call ⟨.value (.func f), args, ts⟩, ty, pos, after, g⟩ E D L next Q :=
  JO_call hx hc.use hd (fun _ _ ⟨_, ⟨he, hL⟩, hL'⟩ => by cases he; rw [hL', hL, ha.h]; exact h) (fun _ _ ⟨_, ⟨he, _⟩, _⟩ => by cases he)
/-- What the contract asks stays. -/
theorem JO_callEP {α : Type} {φ : α → Prop} {v : α → Value} {L0 : α → List HP} {K M : List HP} {L1 : α → List HP} {f : FuncId} [hf : CF P f] {args : Array Operand} {ts : Array TypeId} {vs : List Value} (hx : evs E args.toList = some vs)
    (hc : Ct P f vs.toArray K (RetE φ v L0)) [hs : Sel K L M] [hp : PersK K] [ha : ∀ x, AppH (L0 x) L (L1 x)] (hd : dok N d = true) (h : ∀ x, φ x → next (put E d (v x)) D (L1 x)) : JO P N rd ⟨d, .call ⟨.value (.func f), args, ts⟩, ty, pos, after, g⟩ E D L next Q :=
  JO_call hx hc.useP hd (fun _ _ ⟨_, ⟨x, hφ, he, hL⟩, hL'⟩ => by cases he; rw [hL', hL, (ha x).h]; exact h x hφ) (fun _ _ ⟨_, ⟨_, _, he, _⟩, _⟩ => by cases he)
theorem JO_callVP {v : Value} {L0 K M L1 : List HP} {f : FuncId} [hf : CF P f] {args : Array Operand} {ts : Array TypeId} {vs : List Value} (hx : evs E args.toList = some vs)
    (hc : Ct P f vs.toArray K (RetV v L0)) [hs : Sel K L M] [hp : PersK K] [ha : AppH L0 L L1] (hd : dok N d = true) (h : next (put E d v) D L1) : JO P N rd ⟨d, .call ⟨.value (.func f), args, ts⟩, ty, pos, after, g⟩ E D L next Q :=
  JO_call hx hc.useP hd (fun _ _ ⟨_, ⟨he, hL⟩, hL'⟩ => by cases he; rw [hL', hL, ha.h]; exact h) (fun _ _ ⟨_, ⟨he, _⟩, _⟩ => by cases he)
/-- The same, of closures. -/
theorem JO_callCE {α : Type} {φ : α → Prop} {v : α → Value} {L0 : α → List HP} {K M : List HP} {L1 : α → List HP} {f : FuncId} [hf : CF P f] {x : Operand} {args : Array Operand} {ts : Array TypeId} {vs fs cs : List Value} (hfv : ev E x = some (.func (.func f) fs.toArray cs.toArray))
    (hx : evs E args.toList = some vs) (hc : Ct P f (fs ++ vs ++ cs).toArray K (RetE φ v L0)) [hs : Sel K L M] [ha : ∀ x, AppH (L0 x) M (L1 x)] (hd : dok N d = true) (h : ∀ x, φ x → next (put E d (v x)) D (L1 x)) :
    JO P N rd ⟨d, .call ⟨.value x, args, ts⟩, ty, pos, after, g⟩ E D L next Q :=
  JO_callV hfv hx hc.use hd (fun _ _ ⟨_, ⟨x, hφ, he, hL⟩, hL'⟩ => by cases he; rw [hL', hL, (ha x).h]; exact h x hφ) (fun _ _ ⟨_, ⟨_, _, he, _⟩, _⟩ => by cases he)

theorem JO_callCVP {v : Value} {L0 K M L1 : List HP} {f : FuncId} [hf : CF P f] {x : Operand} {args : Array Operand} {ts : Array TypeId} {vs fs cs : List Value} (hfv : ev E x = some (.func (.func f) fs.toArray cs.toArray))
    (hx : evs E args.toList = some vs) (hc : Ct P f (fs ++ vs ++ cs).toArray K (RetV v L0)) [hs : Sel K L M] [hp : PersK K] [ha : AppH L0 L L1] (hd : dok N d = true) (h : next (put E d v) D L1) :
    JO P N rd ⟨d, .call ⟨.value x, args, ts⟩, ty, pos, after, g⟩ E D L next Q :=
  JO_callV hfv hx hc.useP hd (fun _ _ ⟨_, ⟨he, hL⟩, hL'⟩ => by cases he; rw [hL', hL, ha.h]; exact h) (fun _ _ ⟨_, ⟨he, _⟩, _⟩ => by cases he)
theorem ret_one {α : Type} {φ : α → Prop} {v : α → Value} {L0 : α → List HP} {fn : Func} {t : Nat} {u : Value} (hr : fn.results = #[.tmp t]) (hv : Env.get E t = some u) (x : α) (hφ : φ x) (hu : u = v x) (he : Ent L (L0 x)) :
    bodyQ P N fn (fun e L => ∃ L', Ent L L' ∧ RetE φ v L0 e L') .ret E [] L := ⟨rfl, _, res_one hr hv, _, he, x, hφ, by rw [hu], rfl⟩
theorem ret_oneV {v : Value} {L0 : List HP} {fn : Func} {t : Nat} (hr : fn.results = #[.tmp t]) (hv : Env.get E t = some v) (he : Ent L L0) :
    bodyQ P N fn (fun e L => ∃ L', Ent L L' ∧ RetV v L0 e L') .ret E [] L := ⟨rfl, _, res_one hr hv, _, he, rfl, rfl⟩
theorem ret_two {α : Type} {φ : α → Prop} {v : α → Value} {L0 : α → List HP} {fn : Func} {t s : Nat} {u y : Value} (hr : fn.results = #[.tmp t, .tmp s]) (hv : Env.get E t = some u) (hy : Env.get E s = some y) (x : α) (hφ : φ x) (hu : .tuple #[u, y] = v x) (he : Ent L (L0 x)) :
    bodyQ P N fn (fun e L => ∃ L', Ent L L' ∧ RetE φ v L0 e L') .ret E [] L := ⟨rfl, _, res_two hr hv hy, _, he, x, hφ, by rw [hu], rfl⟩
theorem ret_twoV {u y : Value} {L0 : List HP} {fn : Func} {t s : Nat} (hr : fn.results = #[.tmp t, .tmp s]) (hv : Env.get E t = some u) (hy : Env.get E s = some y) (he : Ent L L0) :
    bodyQ P N fn (fun e L => ∃ L', Ent L L' ∧ RetV (.tuple #[u, y]) L0 e L') .ret E [] L := ⟨rfl, _, res_two hr hv hy, _, he, rfl, rfl⟩
theorem ret_three {α : Type} {φ : α → Prop} {v : α → Value} {L0 : α → List HP} {fn : Func} {t s r : Nat} {u y z : Value} (hr : fn.results = #[.tmp t, .tmp s, .tmp r]) (hv : Env.get E t = some u) (hy : Env.get E s = some y) (hz : Env.get E r = some z) (x : α) (hφ : φ x)
    (hu : .tuple #[u, y, z] = v x) (he : Ent L (L0 x)) : bodyQ P N fn (fun e L => ∃ L', Ent L L' ∧ RetE φ v L0 e L') .ret E [] L := ⟨rfl, _, res_three hr hv hy hz, _, he, x, hφ, by rw [hu], rfl⟩
theorem ret_noneV {L0 : List HP} {fn : Func} (hr : fn.results = #[]) (he : Ent L L0) : bodyQ P N fn (fun e L => ∃ L', Ent L L' ∧ RetV (.tuple #[]) L0 e L') .ret E [] L := ⟨rfl, _, res_none hr, _, he, rfl, rfl⟩
theorem end_noneV {L0 : List HP} {fn : Func} (hr : fn.results = #[]) (he : Ent L L0) : bodyQ P N fn (fun e L => ∃ L', Ent L L' ∧ RetV (.tuple #[]) L0 e L') .normal E [] L := ⟨rfl, _, res_none hr, _, he, rfl, rfl⟩
theorem ret_none {α : Type} {φ : α → Prop} {L0 : α → List HP} {fn : Func} (hr : fn.results = #[]) (x : α) (hφ : φ x) (he : Ent L (L0 x)) : bodyQ P N fn (fun e L => ∃ L', Ent L L' ∧ RetE φ (fun _ => .tuple #[]) L0 e L') .ret E [] L := ⟨rfl, _, res_none hr, _, he, x, hφ, rfl, rfl⟩
theorem end_none {α : Type} {φ : α → Prop} {L0 : α → List HP} {fn : Func} (hr : fn.results = #[]) (x : α) (hφ : φ x) (he : Ent L (L0 x)) : bodyQ P N fn (fun e L => ∃ L', Ent L L' ∧ RetE φ (fun _ => .tuple #[]) L0 e L') .normal E [] L := ⟨rfl, _, res_none hr, _, he, x, hφ, rfl, rfl⟩
theorem Ent.nil {L : List HP} : Ent L [] := fun _ _ hs => hs.sub ((List.nil_sublist L).cons_cons _)
theorem Ent.ownNil {e sz : Nat} {L : List HP} : Ent L [OwnS e sz (.slice none 0 0) 0 []] := fun _ _ hs => (hs.sub ((List.nil_sublist L).cons_cons _)).own_nil.swap
end

/-- Numbers as cells. -/
def ints (l : List Int) : List Value := l.map (.int .i64)
@[simp] theorem length_ints (l : List Int) : (ints l).length = l.length := by simp [ints]
theorem ints_one (l : List Int) : ∀ u ∈ ints l, u.oneCell' = true := by
  intro u hu; simp [ints] at hu; obtain ⟨z, _, rfl⟩ := hu; rfl
theorem ints_append (l m : List Int) : ints (l ++ m) = ints l ++ ints m := by simp [ints]
theorem ints_get {l : List Int} {j : Nat} {z : Int} (h : l[j]? = some z) : (ints l)[j]? = some (.int .i64 z) := by simp [ints, h]

section
variable {P : Program} {N : Nat} {rd : Option Nat} {E : Env} {D : List Deferred} {L : List HP} {Q : Post}
/-- The first assertion, turned. -/
theorem JL_head {all : Array Oper} {i : Nat} {rest : List Oper} {A B : HP} (hab : ∀ (w : World) (M : List HP), Sat w (A :: M) → Sat w (B :: M)) (h : JL P N rd all i rest E D (B :: L) Q) : JL P N rd all i rest E D (A :: L) Q :=
  JL_heap (fun _ w hs => (hab w _ hs.swap).swap) h
theorem J_head {c : Code} {A B : HP} (hab : ∀ (w : World) (M : List HP), Sat w (A :: M) → Sat w (B :: M)) (h : J P N rd c E D (B :: L) Q) : J P N rd c E D (A :: L) Q :=
  J_heap (fun _ w hs => (hab w _ hs.swap).swap) h
/-- The first assertion, dropped. -/
theorem J_drop {c : Code} {A : HP} (h : J P N rd c E D L Q) : J P N rd c E D (A :: L) Q := J_heap (fun _ _ hs => hs.swap.tail) h
theorem JL_drop {all : Array Oper} {i : Nat} {rest : List Oper} {A : HP} (h : JL P N rd all i rest E D L Q) : JL P N rd all i rest E D (A :: L) Q := JL_heap (fun _ _ hs => hs.swap.tail) h
/-- Another order. -/
theorem J_perm {c : Code} {L' : List HP} (p : L.Perm L') (h : J P N rd c E D L' Q) : J P N rd c E D L Q := J_heap (fun F _ hs => hs.perm (p.cons F)) h
theorem JL_perm {all : Array Oper} {i : Nat} {rest : List Oper} {L' : List HP} (p : L.Perm L') (h : JL P N rd all i rest E D L' Q) : JL P N rd all i rest E D L Q := JL_heap (fun F _ hs => hs.perm (p.cons F)) h
/-- An assertion brought to the front. -/
theorem J_front {c : Code} (A : HP) {M : List HP} [t : Tk A L M] (h : J P N rd c E D (A :: M) Q) : J P N rd c E D L Q := J_perm t.h h
theorem JL_front {all : Array Oper} {i : Nat} {rest : List Oper} (A : HP) {M : List HP} [t : Tk A L M] (h : JL P N rd all i rest E D (A :: M) Q) : JL P N rd all i rest E D L Q := JL_perm t.h h
end
end Go.Sp

/- Ranges over functions: rounds, what an iterator promises, the statement, and a function's end behind such a statement. -/
namespace Go.Sp
open Go.RowKit

/-- A call of yield of the loop l. -/
def Yc (P : Program) (l : Nat) (args : Array Value) (L : List HP) (R : Bool → List HP → Prop) : Prop :=
  ∀ (F : HP) (w : World), Sat w (F :: L) → ∃ fn tmps assign body, (Instr.yield l args).run P w = .ok (.round l fn tmps assign body) w ∧
    RoundIn Fence.wide 0 P l fn tmps assign body w fun e w' => ∃ b L', e = .returned (.bool b) ∧ R b L' ∧ Sat w' (F :: L')

theorem Yc.use {P : Program} {l : Nat} {args : Array Value} {K L M : List HP} {R : Bool → List HP → Prop} (h : Yc P l args K R) [hs : Sel K L M] : Yc P l args L fun b L'' => ∃ L', R b L' ∧ L'' = L' ++ M := by
  intro F w s
  have s1 : Sat w (Star (F :: M) :: K) := (Sat.fold (L1 := F :: M)).1 ((s.perm (hs.h.cons F)).perm (List.Perm.cons F List.perm_append_comm))
  obtain ⟨fn, tmps, assign, body, h1, h2⟩ := h _ w s1
  refine ⟨fn, tmps, assign, body, h1, h2.mono ?_⟩
  rintro e w' ⟨b, L', he, hr, s2⟩
  exact ⟨b, _, he, ⟨L', hr, rfl⟩, ((Sat.fold (L1 := F :: M)).2 s2).perm (List.Perm.cons F List.perm_append_comm)⟩

/-- What an iterator (function f, with what it holds) promises: it hands xs to yield, one by one, as long as yield says so. -/
def SeqC (P : Program) (f : FuncId) (fs cs : List Value) (K : List HP) (xs : List (List Value)) : Prop :=
  ∀ (l : Nat) (σ τ : Type) (I : Nat → σ → HP) (Ix : τ → HP),
    (∀ i x s, xs[i]? = some x → Yc P l x.toArray [I i s] fun b L' => (b = true ∧ ∃ s', L' = [I (i + 1) s']) ∨ (b = false ∧ ∃ s', L' = [Ix s'])) →
    ∀ s0, Ct P f (fs ++ [Value.func (.yield l) #[] #[]] ++ cs).toArray (I 0 s0 :: K) fun e L' => (∃ v, e = .returned v) ∧ ((∃ s, L' = [I xs.length s]) ∨ (∃ s, L' = [Ix s]))

/-- The frame of a round: yield's arguments in the loop's variables. -/
def penv : List Tmp → List Value → Env → Env
  | p :: ps, v :: vs, E => penv ps vs ((p, v) :: E)
  | _, _, E => E
theorem rep_penv {N : Nat} {D : List Deferred} : ∀ (ps : List Tmp) (vs : List Value) (E : Env) (tm : Array Value), (∀ p ∈ ps, p < N) → Rep N E D { tmps := tm, defers := D } →
    Rep N (penv ps vs E) D { tmps := (ps.zip vs).foldl (fun t (p, v) => t.setIfInBounds p v) tm, defers := D } := by
  intro ps
  induction ps with
  | nil => intro vs E tm _ h; cases vs <;> exact h
  | cons p ps ih =>
    intro vs E tm hp h
    cases vs with
    | nil => exact h
    | cons v vs =>
      simp only [penv, List.zip_cons_cons, List.foldl_cons]
      refine ih vs _ _ (fun q hq => hp q (by simp [hq])) ?_
      have := h.put (d := some p) (by simpa [dok] using hp p (by simp)) v
      exact this

def collected (r : Nat) : Deferred := { target := .collected r, args := #[] }

/-- How a round may end: it goes on; or it leaves by a jump. -/
def rndQ {σ τ : Type} (A : HP) (U : σ → List HP) (jc : τ → Code) (V : τ → List HP) : Post
  | .normal, _, _, L => ∃ s, Ent L (A :: U s)
  | .ret, _, _, L => ∃ s, jc s = .ret ∧ Ent L (A :: V s)
  | .exit id, _, _, L => ∃ s, jc s = .exit id ∧ Ent L (A :: V s)
  | .goto t, _, _, L => ∃ s, jc s = .goto t ∧ Ent L (A :: V s)
  | _, _, _, _ => False

section
variable {P : Program} {N : Nat} {rd : Option Nat} {E : Env} {D : List Deferred} {L : List HP} {Q : Post} {next : Env → List Deferred → List HP → Prop}
variable {d : Option Nat} {ty : TypeId} {pos : String} {after : Array Edge} {g : Option (Nat × Bool)}

/-- yield is called. -/
theorem JO_yield {l : Nat} {x : Operand} {args : Array Operand} {ts : Array TypeId} {vs : List Value} {R : Bool → List HP → Prop} (hf : ev E x = some (.func (.yield l) #[] #[])) (hx : evs E args.toList = some vs)
    (hy : Yc P l vs.toArray L R) (hd : dok N d = true) (h : ∀ b L', R b L' → next (put E d (.bool b)) D L') : JO P N rd ⟨d, .call ⟨.value x, args, ts⟩, ty, pos, after, g⟩ E D L next Q := by
  intro F a w hr hs nx hnx
  obtain ⟨fn, tmps, assign, body, h1, h2⟩ := hy F w hs
  have e : args.map a.eval = vs.toArray := by rw [← hr.evals hx]; apply Array.ext'; simp
  have hrun : (execOp a.eval ⟨d, .call ⟨.value x, args, ts⟩, ty, pos, after, g⟩).run P w = .ok (.round l fn tmps assign body) w := by
    simp [execOp, resolve, e, hr.eval hf, Deferred.ofValue, invoke, h1]
  refine ⟨fun _ _ => trivial, ?_⟩
  rw [Oper.semAt_eq _ _ _ (fun c => by simp), hrun]
  refine ⟨fun h => by simp [FW, Fence.wide] at h, ?_⟩
  have h3 : RoundIn (FW rd) 0 P l fn tmps assign body w fun e w' => ∃ b L', e = .returned (.bool b) ∧ R b L' ∧ Sat w' (F :: L') := h2
  refine h3.mono ?_
  rintro e' w' ⟨b, L', rfl, hR, hs'⟩
  exact hnx _ _ _ _ _ (h b L' hR) (hr.put hd _) hs'

/-- yield is called by an iterator: it goes on, or no more. -/
theorem JO_yieldI {l : Nat} {x : Operand} {args : Array Operand} {ts : Array TypeId} {vs : List Value} {σ τ : Type} {A : HP} {B : σ → HP} {C : τ → HP} {M : List HP}
    (hy : Yc P l vs.toArray [A] fun b L' => (b = true ∧ ∃ s', L' = [B s']) ∨ (b = false ∧ ∃ s', L' = [C s'])) [Sel [A] L M] (hf : ev E x = some (.func (.yield l) #[] #[])) (hx : evs E args.toList = some vs) (hd : dok N d = true)
    (h1 : ∀ s', next (put E d (.bool true)) D (B s' :: M)) (h2 : ∀ s', next (put E d (.bool false)) D (C s' :: M)) : JO P N rd ⟨d, .call ⟨.value x, args, ts⟩, ty, pos, after, g⟩ E D L next Q :=
  JO_yield hf hx hy.use hd (by
    rintro b L' ⟨_, ⟨rfl, s', rfl⟩ | ⟨rfl, s', rfl⟩, rfl⟩
    · exact h1 s'
    · exact h2 s')
theorem seq_end {fn : Func} {A : HP} {σ τ : Type} {B : σ → HP} {C : τ → HP} (hr : fn.results = #[]) (e : Exit) (he : e = .ret ∨ e = .normal) (hA : Ent L [A]) (h : (∃ s, A = B s) ∨ (∃ s, A = C s)) :
    bodyQ P N fn (fun e L => ∃ L', Ent L L' ∧ (∃ v, e = .returned v) ∧ ((∃ s, L' = [B s]) ∨ (∃ s, L' = [C s]))) e E [] L := by
  have h2 : (∃ s, [A] = [B s]) ∨ (∃ s, [A] = [C s]) := by
    rcases h with ⟨s, rfl⟩ | ⟨s, rfl⟩
    · exact .inl ⟨s, rfl⟩
    · exact .inr ⟨s, rfl⟩
  rcases he with rfl | rfl
  · exact ⟨rfl, _, res_none hr, _, hA, ⟨_, rfl⟩, h2⟩
  · exact ⟨rfl, _, res_none hr, _, hA, ⟨_, rfl⟩, h2⟩

/-- One round. -/
theorem round_yc {l : Nat} {rec : Loop} {σ τ : Type} {Us : List HP} {U : σ → List HP} {jc : τ → Code} {V : τ → List HP} {G : List HP} {x : List Value} (hE : Rep N E [] { tmps := rec.tmps, defers := [] }) (hst : rec.state = .ready)
    (hps : x.length = rec.params.size) (hlt : ∀ p ∈ rec.params, p < N)
    (hbody : J P N (some l) rec.assign (penv rec.params.toList x E) [] Us (thn (fun E' D' L' => J P N (some l) rec.body E' D' (pt l (.loop { rec with state := .busy }) :: L') (rndQ (pt l (.loop { rec with state := .busy })) U jc V)) (fun _ _ _ _ => False))) :
    Yc P l x.toArray [Star (pt l (.loop rec) :: (G ++ Us))] fun b L' => (b = true ∧ ∃ s, L' = [Star (pt l (.loop { rec with state := .ready, pending := none }) :: (G ++ U s))]) ∨ (b = false ∧ ∃ s, L' = [Star (pt l (.loop { rec with state := .done, pending := some (jc s) }) :: (G ++ V s))]) := by
  intro F w hs
  have hs1 : Sat w (pt l (.loop rec) :: (G ++ Us) ++ [F]) := Sat.fold.2 hs.swap
  have hl := hs1.pt_heap
  have hy := run_yield (P := P) (args := x.toArray) hl (by simpa using hps)
  refine ⟨_, _, _, _, hy, roundIn_of_wpIn trivial ?_⟩
  have hrep : Rep N (penv rec.params.toList x E) [] { tmps := (rec.params.zip x.toArray).foldl (fun t (p, v) => t.setIfInBounds p v) rec.tmps, defers := [] } := by
    have := rep_penv rec.params.toList x E rec.tmps (fun p hp => hlt p (by simpa using hp)) hE
    rw [← Array.foldl_toList, Array.toList_zip]
    exact this
  have hs2 : Sat w (Star (F :: pt l (.loop rec) :: G) :: Us) := (Sat.fold (L1 := F :: pt l (.loop rec) :: G)).1 (hs1.perm (by
    simp only [List.cons_append]
    exact (List.perm_append_comm (l₁ := pt l (.loop rec) :: (G ++ Us)) (l₂ := [F]))))
  refine wpIn_mono (hbody _ _ w hrep hs2) ?_
  rintro e a1 w1 ⟨E', D', L', q, r, s⟩
  cases e with
  | normal =>
    have s3 : Sat w1 (pt l (.loop rec) :: (F :: (G ++ L'))) := ((Sat.fold (L1 := F :: pt l (.loop rec) :: G)).2 s).perm (List.Perm.swap _ _ _)
    have hl1 := s3.pt_heap
    refine ⟨_, run_beginRound hl1 hst, ?_⟩
    have s4 : Sat (w1.putObj l (.loop { rec with state := .busy })) (pt l (.loop { rec with state := .busy }) :: (F :: (G ++ L'))) := s3.set_pt _
    have s5 : Sat (w1.putObj l (.loop { rec with state := .busy })) (Star (F :: G) :: (pt l (.loop { rec with state := .busy }) :: L')) := (Sat.fold (L1 := F :: G)).1 (s4.perm (by
      simp only [List.cons_append]
      refine (List.Perm.swap _ _ _).trans (List.Perm.cons F ?_)
      exact List.perm_middle.symm))
    refine wpIn_mono (q _ a1 _ r s5) ?_
    have fin : ∀ (w3 : World) (jump : Option Code) (L3 W3 : List HP), Sat w3 (Star (F :: G) :: L3) → Ent L3 (pt l (.loop { rec with state := .busy }) :: W3) →
        (Instr.endRound l jump).run P w3 = .ok (.bool jump.isNone) (w3.putObj l (.loop { rec with state := if jump.isNone then .ready else .done, pending := jump })) ∧
        Sat (w3.putObj l (.loop { rec with state := if jump.isNone then .ready else .done, pending := jump })) [F, Star (pt l (.loop { rec with state := if jump.isNone then .ready else .done, pending := jump }) :: (G ++ W3))] := by
      intro w3 jump L3 W3 h3 he
      have h4 : Sat w3 (pt l (.loop { rec with state := .busy }) :: (F :: (G ++ W3))) := ((Sat.fold (L1 := F :: G)).2 (he _ _ h3)).perm (by
        simp only [List.cons_append]
        refine (List.Perm.cons F List.perm_middle).trans (List.Perm.swap _ _ _))
      have h5 := run_endRound (P := P) jump h4.pt_heap
      have h6 := h4.set_pt (.loop { rec with state := if jump.isNone then .ready else .done, pending := jump })
      refine ⟨h5, ?_⟩
      have h7 : Sat (w3.putObj l (.loop { rec with state := if jump.isNone then .ready else .done, pending := jump })) ((pt l (.loop { rec with state := if jump.isNone then .ready else .done, pending := jump }) :: (G ++ W3)) ++ [F]) := h6.perm (by
        refine List.Perm.cons _ ?_
        exact (List.perm_append_comm (l₁ := [F]) (l₂ := G ++ W3)))
      exact ((Sat.fold).1 h7).swap
    rintro e a3 w3 ⟨E3, D3, L3, q3, r3, s6⟩
    cases e with
    | normal =>
      obtain ⟨s', he⟩ := q3
      obtain ⟨h1, h2⟩ := fin w3 none L3 _ s6 he
      exact ⟨_, _, h1, true, _, rfl, .inl ⟨rfl, s', rfl⟩, h2⟩
    | ret =>
      obtain ⟨s', hj, he⟩ := q3
      obtain ⟨h1, h2⟩ := fin w3 (some .ret) L3 _ s6 he
      exact ⟨_, _, h1, false, _, rfl, .inr ⟨rfl, s', by rw [hj]; rfl⟩, h2⟩
    | exit id =>
      obtain ⟨s', hj, he⟩ := q3
      obtain ⟨h1, h2⟩ := fin w3 (some (.exit id)) L3 _ s6 he
      exact ⟨_, _, h1, false, _, rfl, .inr ⟨rfl, s', by rw [hj]; rfl⟩, h2⟩
    | goto t =>
      obtain ⟨s', hj, he⟩ := q3
      obtain ⟨h1, h2⟩ := fin w3 (some (.goto t)) L3 _ s6 he
      exact ⟨_, _, h1, false, _, rfl, .inr ⟨rfl, s', by rw [hj]; rfl⟩, h2⟩
    | panic ch => exact q3.elim
    | outgrown => exact q3.elim
  | exit id => exact q.elim
  | goto t => exact q.elim
  | ret => exact q.elim
  | panic ch => exact q.elim
  | outgrown => exact q.elim

/-- **for .. := range f**, in a function's own frame. -/
theorem J_range {σ τ : Type} {gq : Operand} {ps : Array Tmp} {assign body : Code} {f : FuncId} [hf : CF P f] {fs cs : List Value} {K : List HP} {xs : List (List Value)} (U : Nat → σ → List HP) (jc : τ → Code) (V : τ → List HP)
    (hg : ev E gq = some (.func (.func f) fs.toArray cs.toArray)) (hseq : SeqC P f fs cs K xs) (hps : ∀ x ∈ xs, x.length = ps.size) (hlt : ∀ p ∈ ps, p < N) (s0 : σ) (hL : Ent L (U 0 s0 ++ K))
    (hbody : ∀ (l : Nat) (rec : Loop) (i : Nat) (x : List Value) (s : σ), xs[i]? = some x →
      J P N (some l) assign (penv ps.toList x E) [] (U i s) (thn (fun E' D' L' => J P N (some l) body E' D' (pt l (.loop rec) :: L') (rndQ (pt l (.loop rec)) (U (i + 1)) jc V)) (fun _ _ _ _ => False)))
    (hdone : ∀ r s, Q .normal E (collected r :: D) (pt r (.deferred (some [])) :: U xs.length s))
    (hstop : ∀ r s, J P N none (jc s) E (collected r :: D) (pt r (.deferred (some [])) :: V s) Q) : J P N none (.rangeFunc gq ps assign body) E D L Q := by
  intro F a w hr hs
  refine wpIn_rangeFunc ?_
  intro fn _
  obtain ⟨rec, hrec⟩ : ∃ rec : Loop, rec = { state := .ready, pending := none, fn, tmps := a.tmps, params := ps, assign, body, defers := w.heap.size } := ⟨_, rfl⟩
  have hs1 := ((hL F w hs).new (.deferred (some []))).new (.loop rec)
  have hsz : ({ w with heap := w.heap.push (.deferred (some [])) } : World).heap.size = w.heap.size + 1 := by simp
  rw [hsz] at hs1
  have hargs : (resolve a.eval (rangeCall gq (w.heap.size + 1)) 0).run P ((w.alloc (.deferred (some []))).alloc (.loop rec)) = .ok { target := .fn (.func f) cs.toArray, args := (fs ++ [Value.func (.yield (w.heap.size + 1)) #[] #[]]).toArray } ((w.alloc (.deferred (some []))).alloc (.loop rec)) := by
    have hev := hr.eval hg
    have hy : a.eval (.const (.func (.yield (w.heap.size + 1)) #[] #[])) = .func (.yield (w.heap.size + 1)) #[] #[] := rfl
    simp [resolve, rangeCall, hev, hy, Deferred.ofValue]
  refine ⟨w.heap.size + 1, [collected w.heap.size], (w.alloc (.deferred (some []))).alloc (.loop rec), { target := .fn (.func f) cs.toArray, args := (fs ++ [Value.func (.yield (w.heap.size + 1)) #[] #[]]).toArray }, (w.alloc (.deferred (some []))).alloc (.loop rec), f,
    (fs ++ [Value.func (.yield (w.heap.size + 1)) #[] #[]] ++ cs).toArray, (w.alloc (.deferred (some []))).alloc (.loop rec), ?_, hargs, fun _ _ => trivial, ?_, fun h => by simp [FW, Fence.wide] at h, ?_⟩
  · rw [hrec]; exact run_enterLoop_outer _ _ _ _ _
  · simp [invoke, hf.h]
  · have hround := hseq (w.heap.size + 1) σ τ (fun i s => Star (pt (w.heap.size + 1) (.loop rec) :: ([pt w.heap.size (.deferred (some []))] ++ U i s)))
      (fun s => Star (pt (w.heap.size + 1) (.loop { rec with state := .done, pending := some (jc s) }) :: ([pt w.heap.size (.deferred (some []))] ++ V s))) (fun i x s hx => by
        have h1 := round_yc (P := P) (N := N) (E := E) (l := w.heap.size + 1) (rec := rec) (Us := U i s) (U := U (i + 1)) (jc := jc) (V := V) (G := [pt w.heap.size (.deferred (some []))]) (x := x)
          ⟨by rw [hrec]; exact hr.1, rfl, by rw [hrec]; exact hr.2.2⟩ (by rw [hrec]) (by rw [hrec]; exact hps x (List.mem_of_getElem? hx)) (by rw [hrec]; exact hlt) (by
            have := hbody (w.heap.size + 1) { rec with state := .busy } i x s hx
            rw [hrec] at this ⊢
            exact this)
        have e1 : ({ rec with state := .ready, pending := none } : Loop) = rec := by rw [hrec]
        rw [e1] at h1
        exact h1) s0
    have hs2 : Sat ((w.alloc (.deferred (some []))).alloc (.loop rec)) (F :: Star (pt (w.heap.size + 1) (.loop rec) :: ([pt w.heap.size (.deferred (some []))] ++ U 0 s0)) :: K) := by
      have h3 : Sat ((w.alloc (.deferred (some []))).alloc (.loop rec)) ((pt (w.heap.size + 1) (.loop rec) :: ([pt w.heap.size (.deferred (some []))] ++ U 0 s0)) ++ (F :: K)) := hs1.perm (by
        refine List.Perm.cons _ ?_
        simp only [List.cons_append, List.nil_append]
        refine List.Perm.cons _ ?_
        exact List.perm_middle.symm)
      exact ((Sat.fold).1 h3).swap
    refine fw_wide none ((hround F _ hs2).mono ?_)
    rintro e w3 ⟨hne, L', ⟨⟨v, rfl⟩, ⟨s, rfl⟩ | ⟨s, rfl⟩⟩, hs3⟩
    · have h4 : Sat w3 (pt (w.heap.size + 1) (.loop rec) :: (F :: (pt w.heap.size (.deferred (some [])) :: U xs.length s))) := ((Sat.fold).2 hs3.swap).perm (by
        simp only [List.cons_append, List.nil_append]
        refine List.Perm.cons _ ?_
        exact (List.perm_append_comm (l₁ := pt w.heap.size (.deferred (some [])) :: U xs.length s) (l₂ := [F])))
      refine ⟨none, _, by have := run_endLoop (P := P) h4.pt_heap (by rw [hrec]; simp); rw [this, hrec], ?_⟩
      exact ⟨E, _, _, hdone _ s, ⟨hr.1, by rw [hr.2.1]; rfl, hr.2.2⟩, (h4.set_pt _).tail⟩
    · have h4 : Sat w3 (pt (w.heap.size + 1) (.loop { rec with state := .done, pending := some (jc s) }) :: (F :: (pt w.heap.size (.deferred (some [])) :: V s))) := ((Sat.fold).2 hs3.swap).perm (by
        simp only [List.cons_append, List.nil_append]
        refine List.Perm.cons _ ?_
        exact (List.perm_append_comm (l₁ := pt w.heap.size (.deferred (some [])) :: V s) (l₂ := [F])))
      refine ⟨some (jc s), _, by have := run_endLoop (P := P) h4.pt_heap (by simp); rw [this], ?_⟩
      exact hstop _ s F _ _ ⟨hr.1, by rw [hr.2.1]; rfl, hr.2.2⟩ (h4.set_pt _).tail

/-! ### A function's end behind such statements -/
def MarksQ : List Deferred → List HP → (List HP → Prop) → Prop
  | [], L, K => K L
  | d :: D, L, K => ∃ r M, d.target = .collected r ∧ L.Perm (pt r (.deferred (some [])) :: M) ∧ MarksQ D M K
def bodyQM (P : Program) (N : Nat) (fn : Func) (R : Ending → List HP → Prop) : Post
  | .normal, E, D, L | .ret, E, D, L => MarksQ D L fun L0 => ∃ v, Res P N fn E L0 v ∧ ∃ L', Ent L0 L' ∧ R (.returned v) L'
  | _, _, _, _ => False
theorem leaves_marks {fn : Func} {R : Ending → List HP → Prop} {F : HP} : ∀ (D : List Deferred) (L : List HP) (a : Act) (w : World) (E : Env), Rep N E a.defers a → Sat w (F :: L) →
    MarksQ D L (fun L0 => ∃ v, Res P N fn E L0 v ∧ ∃ L', Ent L0 L' ∧ R (.returned v) L') →
    LeavesInM Fence.wide 0 P fn a.tmps (fun e w' => e ≠ .outgrown ∧ ∃ L', R e L' ∧ Sat w' (F :: L')) D .returning w := by
  intro D
  induction D with
  | nil =>
    intro L a w E hr hs ⟨v, hv, L', he, hR⟩
    exact ⟨v, hv F a w _ hr hs, by simp, L', hR, he F w hs⟩
  | cons d D ih =>
    intro L a w E hr hs ⟨r, M, ht, hp, hq⟩
    have hs1 : Sat w (pt r (.deferred (some [])) :: F :: M) := (hs.perm (hp.cons F)).swap
    refine ⟨by simp, .inl ⟨r, _, ht, run_takeDeferred hs1.pt_heap, ?_⟩⟩
    exact ih M a _ E hr (hs1.set_pt _).tail hq
theorem retM_one {α : Type} {φ : α → Prop} {v : α → Value} {L0 : α → List HP} {r : Nat} {M : List HP} [h : Tk (pt r (.deferred (some []))) L M] {fn : Func} {t : Nat} {u : Value} (hr : fn.results = #[.tmp t]) (hv : Env.get E t = some u) (x : α) (hφ : φ x) (hu : u = v x) (he : Ent M (L0 x)) :
    bodyQM P N fn (RetE φ v L0) .ret E [collected r] L := ⟨r, M, rfl, h.h, _, res_one hr hv, _, he, x, hφ, by rw [hu], rfl⟩
theorem retM_none {α : Type} {φ : α → Prop} {L0 : α → List HP} {r : Nat} {M : List HP} [h : Tk (pt r (.deferred (some []))) L M] {fn : Func} (hr : fn.results = #[]) (x : α) (hφ : φ x) (he : Ent M (L0 x)) :
    bodyQM P N fn (RetE φ (fun _ => .tuple #[]) L0) .ret E [collected r] L := ⟨r, M, rfl, h.h, _, res_none hr, _, he, x, hφ, rfl, rfl⟩
theorem endM_none {α : Type} {φ : α → Prop} {L0 : α → List HP} {r : Nat} {M : List HP} [h : Tk (pt r (.deferred (some []))) L M] {fn : Func} (hr : fn.results = #[]) (x : α) (hφ : φ x) (he : Ent M (L0 x)) :
    bodyQM P N fn (RetE φ (fun _ => .tuple #[]) L0) .normal E [collected r] L := ⟨r, M, rfl, h.h, _, res_none hr, _, he, x, hφ, rfl, rfl⟩
/-- A function's contract from its body, where that ranges over functions. -/
theorem fn_retM {f : FuncId} {fn : Func} {c : Code} {vs : List Value} {R : Ending → List HP → Prop} (hf : P.funcs[f]? = some fn) (hb : fn.body = some c) (hn : fn.ntmps = N) (hN : vs.length ≤ N)
    (h : J P N none c (argEnv 0 vs) [] L (bodyQM P N fn R)) : Ct P f vs.toArray L R := by
  intro F w hs
  refine (callsIn_wide (n := 0)).1 (callsIn_of_wp_marks hf hb trivial ?_ rfl)
  have h1 := h F _ w (rep_args vs hN) hs
  rw [hn]
  refine wpIn_mono h1 ?_
  rintro e a w' ⟨E, D, L', q, r, s⟩
  cases e with
  | normal => rw [← r.2.1] at q; exact leaves_marks _ L' a w' E ⟨r.1, rfl, r.2.2⟩ s q
  | ret => rw [← r.2.1] at q; exact leaves_marks _ L' a w' E ⟨r.1, rfl, r.2.2⟩ s q
  | panic ch => exact q.elim
  | exit id => exact q.elim
  | goto l => exact q.elim
  | outgrown => exact q.elim
end
end Go.Sp

/- Owned rows opened and frozen in the middle of code; rows of structs. -/
namespace Go.Sp
open Go.RowKit

theorem Sat.own_view {w : World} {e sz : Nat} {v : Value} {n : Nat} {cs : List Value} {L : List HP} (h : Sat w (OwnS e sz v n cs :: L)) : ∃ p cap, v = .slice p n cap ∧ Sat w (Vw sz (.slice p n cap) n cs :: L) := by
  have h1 := h.own_freeze
  obtain ⟨_, _, p, cap, rfl, _⟩ : cs.length = n * sz ∧ n ≤ maxLen ∧ ∃ p cap, v = .slice p n cap ∧ True := h1.out (fun k ⟨a, b, p, cap, c, _⟩ => ⟨a, b, p, cap, c, trivial⟩)
  exact ⟨p, cap, rfl, h1⟩

section
variable {P : Program} {N : Nat} {rd : Option Nat} {E : Env} {D : List Deferred} {L : List HP} {Q : Post}
/-- The first assertion, an owned row, is frozen. -/
theorem JL_view {all : Array Oper} {i : Nat} {rest : List Oper} {e sz : Nat} {v : Value} {n : Nat} {cs : List Value} (h : ∀ p cap, v = .slice p n cap → JL P N rd all i rest E D (Vw sz (.slice p n cap) n cs :: L) Q) : JL P N rd all i rest E D (OwnS e sz v n cs :: L) Q := by
  intro F a w hr hs
  obtain ⟨p, cap, hv, hs'⟩ := hs.swap.own_view
  exact h p cap hv F a w hr hs'.swap
theorem J_view {c : Code} {e sz : Nat} {v : Value} {n : Nat} {cs : List Value} (h : ∀ p cap, v = .slice p n cap → J P N rd c E D (Vw sz (.slice p n cap) n cs :: L) Q) : J P N rd c E D (OwnS e sz v n cs :: L) Q := by
  intro F a w hr hs
  obtain ⟨p, cap, hv, hs'⟩ := hs.swap.own_view
  exact h p cap hv F a w hr hs'.swap
/-- What the first assertion says besides. -/
theorem JL_say {all : Array Oper} {i : Nat} {rest : List Oper} {A : HP} {φ : Prop} (hA : ∀ k, A k → φ) (h : φ → JL P N rd all i rest E D (A :: L) Q) : JL P N rd all i rest E D (A :: L) Q := JL_fact (fun _ _ hs => hs.tail.out hA) h
theorem J_say {c : Code} {A : HP} {φ : Prop} (hA : ∀ k, A k → φ) (h : φ → J P N rd c E D (A :: L) Q) : J P N rd c E D (A :: L) Q := J_fact (fun _ _ hs => hs.tail.out hA) h
/-- The first assertion, which stays, taken apart. -/
theorem JL_open {all : Array Oper} {i : Nat} {rest : List Oper} {A : HP} {α : Sort _} {B : α → List HP} (hp : Pers A) (hA : ∀ k, A k → ∃ x, Star (B x) k) (h : ∀ x, JL P N rd all i rest E D (B x ++ A :: L) Q) : JL P N rd all i rest E D (A :: L) Q := by
  intro F a w hr hs
  have h1 : Sat w (A :: A :: F :: L) := (hs.swap).dup hp
  obtain ⟨x, hx⟩ := h1.outE (B := fun x k => Star (B x) k) hA
  refine h x F a w hr ?_
  have h2 : Sat w (B x ++ (A :: F :: L)) := Sat.fold.2 hx
  exact h2.perm (by
    have e1 : (B x ++ A :: F :: L).Perm (B x ++ F :: A :: L) := (List.Perm.swap _ _ _).append_left _
    exact e1.trans List.perm_middle)
theorem J_open {c : Code} {A : HP} {α : Sort _} {B : α → List HP} (hp : Pers A) (hA : ∀ k, A k → ∃ x, Star (B x) k) (h : ∀ x, J P N rd c E D (B x ++ A :: L) Q) : J P N rd c E D (A :: L) Q := by
  intro F a w hr hs
  have h1 : Sat w (A :: A :: F :: L) := (hs.swap).dup hp
  obtain ⟨x, hx⟩ := h1.outE (B := fun x k => Star (B x) k) hA
  refine h x F a w hr ?_
  have h2 : Sat w (B x ++ (A :: F :: L)) := Sat.fold.2 hx
  exact h2.perm (by
    have e1 : (B x ++ A :: F :: L).Perm (B x ++ F :: A :: L) := (List.Perm.swap _ _ _).append_left _
    exact e1.trans List.perm_middle)
end

section
variable {P : Program} {N : Nat} {rd : Option Nat} {E : Env} {D : List Deferred} {L : List HP} {Q : Post}
def gslot (all : Array Oper) (j : Nat) : Option Nat := match all[j]? with | some o => o.dst | none => none
/-- A guard that was passed over itself. -/
def gnone (all : Array Oper) (E : Env) (j : Nat) : Bool :=
  match all[j]? with
  | some o => match o.dst with
    | some d => match Env.get E d with | some (.tuple _) => true | _ => false
    | none => false
  | none => false
theorem JL_passN {all : Array Oper} {i : Nat} {o : Oper} {rest : List Oper} {j : Nat} {want : Bool} (hg : o.guard = some (j, want)) (hv : gnone all E j = true) (hd : dok N o.dst = true)
    (h : JL P N rd all (i + 1) rest (put E o.dst undef) D L Q) : JL P N rd all i (o :: rest) E D L Q := by
  intro F a w hr hs hdr
  obtain ⟨h1, h2⟩ := drop_cons hdr
  simp only [List.length_cons, List.range'_succ, wpOpsIn]
  have h3 : all[i]? = some o := by simpa using h1
  have h4 : yielded all a.tmps j = none := by
    unfold gnone at hv
    split at hv
    · rename_i o' ho
      split at hv
      · rename_i d' hd'
        split at hv
        · rename_i vs hb
          have := hr.2.2 d' _ hb
          simp [yielded, ho, hd', this]
        · cases hv
      · cases hv
    · cases hv
  simp only [h3, Region.wanted, hg, h4, show ((none : Option Bool) == some want) = false from rfl, if_false, Bool.false_eq_true]
  exact ⟨fun f _ => trivial, h F (a.put o.dst undef) w (hr.put hd undef) hs h2⟩
/-- A guard that is not decided: both ways. -/
theorem JL_guard {all : Array Oper} {i : Nat} {o : Oper} {rest : List Oper} {j : Nat} {want : Bool} {d : Nat} {b : Bool} (_ : o.guard = some (j, want)) (_ : gslot all j = some d) (hb : Env.get E d = some (.bool b))
    (h1 : b = true → JL P N rd all i (o :: rest) ((d, .bool true) :: E) D L Q) (h2 : b = false → JL P N rd all i (o :: rest) ((d, .bool false) :: E) D L Q) : JL P N rd all i (o :: rest) E D L Q := JL_split d hb h1 h2
theorem JL_guardP {all : Array Oper} {i : Nat} {o : Oper} {rest : List Oper} {j : Nat} {want : Bool} {d : Nat} {p : Prop} {_ : Decidable p} (_ : o.guard = some (j, want)) (_ : gslot all j = some d) (hb : Env.get E d = some (.bool (decide p)))
    (h1 : p → JL P N rd all i (o :: rest) ((d, .bool true) :: E) D L Q) (h2 : ¬ p → JL P N rd all i (o :: rest) ((d, .bool false) :: E) D L Q) : JL P N rd all i (o :: rest) E D L Q := JL_splitP d hb h1 h2
end

section
variable {P : Program} {N : Nat} {rd : Option Nat} {E : Env} {D : List Deferred} {L : List HP} {Q : Post}
/-- Where ways meet: what is known behind a piece of code. -/
def cutQ (E' : Env) (D' : List Deferred) (L' : List HP) (Q : Post) : Post
  | .normal, E, D, L => Sub E' E ∧ D = D' ∧ Ent L L'
  | e, E, D, L => Q e E D L
theorem J_cut {c : Code} (E' : Env) (L' : List HP) (h : J P N rd c E D L (cutQ E' D L' Q)) (k : Q .normal E' D L') : J P N rd c E D L Q := by
  intro F a w hr hs
  refine wpIn_mono (h F a w hr hs) ?_
  rintro e a w ⟨E1, D1, L1, q, r, s⟩
  cases e with
  | normal => obtain ⟨h1, rfl, h3⟩ := q; exact ⟨E', _, L', k, r.sub h1, h3 F w s⟩
  | exit id => exact ⟨E1, D1, L1, q, r, s⟩
  | goto l => exact ⟨E1, D1, L1, q, r, s⟩
  | ret => exact ⟨E1, D1, L1, q, r, s⟩
  | panic ch => exact ⟨E1, D1, L1, q, r, s⟩
  | outgrown => exact ⟨E1, D1, L1, q, r, s⟩
/-- The same, with things that are known of each way. -/
def cutX {α : Sort _} (E' : α → Env) (D' : List Deferred) (L' : α → List HP) (Q : Post) : Post
  | .normal, E, D, L => ∃ x, Sub (E' x) E ∧ D = D' ∧ Ent L (L' x)
  | e, E, D, L => Q e E D L
theorem J_cutX {α : Sort _} {c : Code} (E' : α → Env) (L' : α → List HP) (h : J P N rd c E D L (cutX E' D L' Q)) (k : ∀ x, Q .normal (E' x) D (L' x)) : J P N rd c E D L Q := by
  intro F a w hr hs
  refine wpIn_mono (h F a w hr hs) ?_
  rintro e a w ⟨E1, D1, L1, q, r, s⟩
  cases e with
  | normal => obtain ⟨x, h1, rfl, h3⟩ := q; exact ⟨E' x, _, L' x, k x, r.sub h1, h3 F w s⟩
  | exit id => exact ⟨E1, D1, L1, q, r, s⟩
  | goto l => exact ⟨E1, D1, L1, q, r, s⟩
  | ret => exact ⟨E1, D1, L1, q, r, s⟩
  | panic ch => exact ⟨E1, D1, L1, q, r, s⟩
  | outgrown => exact ⟨E1, D1, L1, q, r, s⟩
theorem wpOps_mono {F : Fence} {n : Nat} {all : Array Oper} {Q1 Q2 : Exit → Act → World → Prop} (hq : ∀ e a w, Q1 e a w → Q2 e a w) : ∀ (l : List Nat) (a : Act) (w : World), wpOpsIn F n P all Q1 l a w → wpOpsIn F n P all Q2 l a w := by
  intro l
  induction l with
  | nil => exact fun a w h => hq _ _ _ h
  | cons i rest ih =>
    intro a w h
    simp only [wpOpsIn] at h ⊢
    split at h
    · exact ih _ _ h
    · rename_i o ho
      by_cases hw : Region.wanted o (yielded all a.tmps) = true
      · simp only [hw, if_true] at h ⊢
        refine ⟨h.1, ?_⟩
        have h2 := h.2
        unfold Oper.uponIn at h2 ⊢
        split at h2
        · exact ih _ _ h2
        · exact ih _ _ h2
        · exact ih _ _ h2
        · refine ⟨h2.1, h2.2.mono ?_⟩
          intro e w'' h3
          cases e with
          | returned v => exact ih _ _ h3
          | panicked ch => exact hq _ _ _ h3
          | outgrown => exact let ⟨a, w, h4⟩ := h3; ⟨a, w, hq _ _ _ h4⟩
        · exact ⟨h2.1, h2.2.mono fun v w'' h3 => ih _ _ h3⟩
        · refine ⟨h2.1, h2.2.mono ?_⟩
          intro e w'' h3
          cases e with
          | returned v => exact ih _ _ h3
          | panicked ch => exact hq _ _ _ h3
          | outgrown => exact let ⟨a, w, h4⟩ := h3; ⟨a, w, hq _ _ _ h4⟩
        · exact hq _ _ _ h2
        · exact h2.elim
      · simp only [hw, if_false, Bool.false_eq_true] at h ⊢
        exact ⟨h.1, ih _ _ h.2⟩
theorem JL_mono {all : Array Oper} {i : Nat} {rest : List Oper} {Q' : Post} (h : JL P N rd all i rest E D L Q) (hq : ∀ e E D L, Q e E D L → Q' e E D L) : JL P N rd all i rest E D L Q' :=
  fun F a w hr hs hd => wpOps_mono (fun _ _ _ ⟨E, D, L, q, r, s⟩ => ⟨E, D, L, hq _ _ _ _ q, r, s⟩) _ _ _ (h F a w hr hs hd)
theorem cut_lift {E' : Env} {D' : List Deferred} {L' : List HP} (k : Q .normal E' D' L') (F : HP) (e : Exit) (a : Act) (w : World) (h : lift N F (cutQ E' D' L' Q) e a w) : lift N F Q e a w := by
  obtain ⟨E1, D1, L1, q, r, s⟩ := h
  cases e with
  | normal => obtain ⟨h1, rfl, h3⟩ := q; exact ⟨E', _, L', k, r.sub h1, h3 F w s⟩
  | exit id => exact ⟨E1, D1, L1, q, r, s⟩
  | goto l => exact ⟨E1, D1, L1, q, r, s⟩
  | ret => exact ⟨E1, D1, L1, q, r, s⟩
  | panic ch => exact ⟨E1, D1, L1, q, r, s⟩
  | outgrown => exact ⟨E1, D1, L1, q, r, s⟩
theorem JL_cut {all : Array Oper} {i : Nat} {rest : List Oper} (E' : Env) (L' : List HP) (h : JL P N rd all i rest E D L (cutQ E' D L' Q)) (k : Q .normal E' D L') : JL P N rd all i rest E D L Q :=
  fun F a w hr hs hd => wpOps_mono (cut_lift k F) _ _ _ (h F a w hr hs hd)
theorem sub_bool {k : Nat} {b c : Bool} {E' E : Env} (h : Env.get E k = some (.bool b)) (hb : b = c) (hs : Sub E' E) : Sub ((k, .bool c) :: E') E := sub_cons (hb ▸ h) hs
theorem sub_int {k : Nat} {ik : IntKind} {m n : Int} {E' E : Env} (h : Env.get E k = some (.int ik m)) (hb : m = n) (hs : Sub E' E) : Sub ((k, .int ik n) :: E') E := sub_cons (hb ▸ h) hs
end

theorem length_flat {α : Type} {k : Nat} {f : α → List Value} (hf : ∀ x, (f x).length = k) : ∀ xs : List α, (xs.flatMap f).length = xs.length * k := by
  intro xs
  induction xs with
  | nil => simp
  | cons x xs ih => rw [List.flatMap_cons, List.length_append, hf, ih, List.length_cons, Nat.add_mul]; omega
theorem flat_get {α : Type} {k : Nat} {f : α → List Value} (hf : ∀ x, (f x).length = k) : ∀ (xs : List α) (j i : Nat) (x : α), i < k → xs[j]? = some x → (xs.flatMap f)[j * k + i]? = (f x)[i]? := by
  intro xs
  induction xs with
  | nil => intro j i x _ hx; simp at hx
  | cons y xs ih =>
    intro j i x hi hx
    rw [List.flatMap_cons]
    cases j with
    | zero =>
      simp at hx
      subst hx
      rw [Nat.zero_mul, Nat.zero_add, List.getElem?_append_left (by rw [hf]; exact hi)]
    | succ j =>
      simp at hx
      rw [List.getElem?_append_right (by rw [hf, Nat.add_mul]; omega), hf, show (j + 1) * k + i - k = j * k + i from by rw [Nat.add_mul]; omega]
      exact ih j i x hi hx
theorem flat_append {α : Type} {f : α → List Value} (xs ys : List α) : (xs ++ ys).flatMap f = xs.flatMap f ++ ys.flatMap f := by simp

/-- Frozen assertions on one part hold side by side. -/
theorem star_pers {h : Part} : ∀ {L : List HP}, (∀ A ∈ L, Pers A ∧ A h) → Star L h := by
  intro L
  induction L with
  | nil => exact fun _ => trivial
  | cons A L ih =>
    intro hA
    have h1 := hA A (by simp)
    exact ⟨ice h, h, ice_comp h, ice_le h, Le.refl h, h1.1 h h1.2, ih fun B hB => hA B (by simp [hB])⟩
end Go.Sp

/- Maps from numbers, of the call's own. -/
namespace Go.Sp
open Go.RowKit

def isKey (k : Int) (e : MapEntry) : Bool := match e.key with | .int .i64 a => a == k | _ => false
def keyed (e : MapEntry) : Prop := ∃ a, e.key = .int .i64 a
def mlook (es : List MapEntry) (k : Int) : Option Value := (es.find? (isKey k)).map (·.val)

theorem findNow_int {q : IntKind} (k : Int) : ∀ (es : List MapEntry) (i : Nat), (∀ e ∈ es, keyed e) →
    Instr.findNow (.int q) (.int .i64 k) es i = some ((es.findIdx? (isKey k)).map fun j => (i + j, ((es[j]?).map (·.val)).getD undef)) := by
  intro es
  induction es with
  | nil => intro i _; simp [Instr.findNow]
  | cons e es ih =>
    intro i h
    obtain ⟨a, ha⟩ := h e (by simp)
    have hk : isKey k e = (a == k) := by simp [isKey, ha]
    simp only [Instr.findNow, ha, Instr.sameNow, if_true, List.findIdx?_cons, hk]
    by_cases hak : k = a
    · subst hak; simp
    · have h1 : (k == a) = false := by simpa using hak
      have h2 : (a == k) = false := by simpa using Ne.symm hak
      simp only [h1, h2, Bool.false_eq_true, if_false]
      rw [ih (i + 1) (fun e' he' => h e' (by simp [he']))]
      cases es.findIdx? (isKey k) with
      | none => simp
      | some j => simp; omega

/-- b: a map of the call's own from int; what it holds. -/
def MpI (b : Nat) (f : Int → Option Value) : HP := fun h => ∃ es clock, h (some b) = some (false, .obj (.map es clock)) ∧ (∀ e ∈ es.toList, keyed e) ∧ ∀ k, mlook es.toList k = f k

theorem mlook_idx {es : List MapEntry} {k : Int} : mlook es k = (es.findIdx? (isKey k)).map fun j => ((es[j]?).map (·.val)).getD undef := by
  unfold mlook
  induction es with
  | nil => simp
  | cons e es ih =>
    by_cases h : isKey k e = true
    · simp [h, List.findIdx?_cons]
    · have h' : isKey k e = false := by simpa using h
      simp only [List.find?_cons, h', List.findIdx?_cons, Bool.false_eq_true, if_false]
      rw [ih]
      cases es.findIdx? (isKey k) <;> simp

theorem mlook_push {es : List MapEntry} {k : Int} {v : Value} {c : Nat} (h : es.findIdx? (isKey k) = none) (j : Int) : mlook (es ++ [{ key := .int .i64 k, val := v, born := c }]) j = if j = k then some v else mlook es j := by
  unfold mlook
  rw [List.find?_append]
  by_cases hj : j = k
  · subst hj
    have : es.find? (isKey j) = none := by
      rw [List.findIdx?_eq_none_iff] at h
      rw [List.find?_eq_none]
      intro e he
      simp [h e he]
    simp [this, isKey]
  · have : isKey j { key := .int .i64 k, val := v, born := c } = false := by simp [isKey]; exact fun e => hj e.symm
    simp [hj, this]

theorem mlook_modify {es : List MapEntry} {k : Int} {v : Value} : ∀ {i : Nat}, es.findIdx? (isKey k) = some i → ∀ j : Int, mlook (es.modify i fun e => { e with key := .int .i64 k, val := v }) j = if j = k then some v else mlook es j := by
  unfold mlook
  induction es with
  | nil => intro i h; simp at h
  | cons e es ih =>
    intro i h j
    rw [List.findIdx?_cons] at h
    by_cases hk : isKey k e = true
    · simp only [hk, if_true, Option.some.injEq] at h
      subst h
      by_cases hj : j = k
      · subst hj; simp [isKey]
      · have h1 : isKey j { e with key := .int .i64 k, val := v } = false := by simp [isKey]; exact fun h => hj h.symm
        have h2 : isKey j e = false := by
          unfold isKey at hk ⊢
          cases he : e.key <;> simp_all
          rename_i q a
          cases q <;> simp_all
          exact fun h => hj h.symm
        simp [hj, h1, h2]
    · have hk' : isKey k e = false := by simpa using hk
      simp only [hk', Bool.false_eq_true, if_false, Option.map_eq_some_iff] at h
      obtain ⟨i', h1, rfl⟩ := h
      simp only [List.modify_succ_cons, List.find?_cons]
      by_cases hj : isKey j e = true
      · have : j ≠ k := fun h => by subst h; simp [hk'] at hj
        simp [hj, this]
      · have hj' : isKey j e = false := by simpa using hj
        simp only [hj']
        exact ih h1 j

theorem run_findKey {P : Program} {t : TypeId} {q : IntKind} (ht : P.underlying t = some (.int q)) (k : Int) (es : List MapEntry) (h : ∀ e ∈ es, keyed e) (w : World) :
    (Instr.findKey t (.int .i64 k) es).run P w = .ok ((es.findIdx? (isKey k)).map fun j => (j, ((es[j]?).map (·.val)).getD undef)) w := by
  unfold Instr.findKey
  simp only [Sem.run_bind, run_underlying' ht, Result.andThen_ok, findNow_int k es 0 h, Nat.zero_add, Sem.run_pure]
theorem run_checkKey {P : Program} {t : TypeId} {q : IntKind} (ht : P.underlying t = some (.int q)) (b : Bool) (k : Int) (w : World) : (Instr.checkKey b 10000 t (.int .i64 k)).run P w = .ok () w := by
  unfold Instr.checkKey
  simp [run_underlying' ht]

def updF (f : Int → Option Value) (k : Int) (v : Value) : Int → Option Value := fun j => if j = k then some v else f j

class TkM (b : Nat) (L : List HP) (f : outParam (Int → Option Value)) (M : outParam (List HP)) : Prop where h : L.Perm (MpI b f :: M)
instance tkm_head (b : Nat) (f : Int → Option Value) (L : List HP) : TkM b (MpI b f :: L) f L := ⟨.refl _⟩
instance (priority := low) tkm_tail (b : Nat) (f : Int → Option Value) (A : HP) (L M : List HP) [h : TkM b L f M] : TkM b (A :: L) f (A :: M) := ⟨(h.h.cons A).trans (List.Perm.swap _ _ _)⟩

theorem Sat.map_open {w : World} {b : Nat} {f : Int → Option Value} {L : List HP} (h : Sat w (MpI b f :: L)) : ∃ es clock, Sat w (pt b (.map es clock) :: L) ∧ (∀ e ∈ es.toList, keyed e) ∧ ∀ k, mlook es.toList k = f k := by
  obtain ⟨⟨es, clock⟩, hs⟩ := h.outE (α := Array MapEntry × Nat) (B := fun x k => k (some b) = some (false, .obj (.map x.1 x.2)) ∧ (∀ e ∈ x.1.toList, keyed e) ∧ ∀ j, mlook x.1.toList j = f j) (fun k ⟨es, clock, h1, h2, h3⟩ => ⟨(es, clock), h1, h2, h3⟩)
  have hf := hs.out (φ := (∀ e ∈ es.toList, keyed e) ∧ ∀ j, mlook es.toList j = f j) (fun k hk => hk.2)
  exact ⟨es, clock, hs.conv fun k hk => hk.1, hf.1, hf.2⟩

section
variable {P : Program} {N : Nat} {rd : Option Nat} {E : Env} {D : List Deferred} {L : List HP} {Q : Post} {next : Env → List Deferred → List HP → Prop}
variable {d : Option Nat} {ty : TypeId} {pos : String} {after : Array Edge} {g : Option (Nat × Bool)}
theorem JO_makeMap {t : TypeId} (hd : dok N d = true) (h : ∀ b, next (put E d (.map (some b))) D (MpI b (fun _ => none) :: L)) : JO P N rd ⟨d, .makeMap t none, ty, pos, after, g⟩ E D L next Q :=
  JO_value (fun c => by simp) hd fun F a w hr hs => ⟨_, _, _, by simp [execOp, Instr.makeMap], ((hs.new (.map #[] 0)).conv fun k hk => ⟨#[], 0, hk, by simp, by simp [mlook]⟩).swap, h _⟩
theorem sat_mapUpdate {w : World} {t kt et b : Nat} {q : IntKind} [TU P t (.map kt et)] [TU P kt (.int q)] {f : Int → Option Value} {L : List HP} (hs : Sat w (MpI b f :: L)) (k : Int) (v : Value) :
    ∃ w', (Instr.mapUpdate t (.map (some b)) (.int .i64 k) v).run P w = .ok () w' ∧ Sat w' (MpI b (updF f k v) :: L) := by
  obtain ⟨es, clock, h1, h2, h3⟩ := hs.map_open
  have hb := h1.pt_heap
  have hget : (getObj b).run P w = .ok (.map es clock) w := by simp [getObj, Sem.run, hb]
  have hset : ∀ o, (Go.setObj b o : Sem Unit).run P w = .ok () (Sp.setObj w b o) := fun o => by simp [Go.setObj, Sem.run, hb, Sp.setObj]
  have hfk := run_findKey (P := P) (TU.h (P := P) (t := kt)) k es.toList h2 w
  have hck := run_checkKey (P := P) (TU.h (P := P) (t := kt)) false k w
  cases hx : es.toList.findIdx? (isKey k) with
  | none =>
    refine ⟨Sp.setObj w b (.map (es.push { key := .int .i64 k, val := v, born := clock }) (clock + 1)), ?_, ?_⟩
    · unfold Instr.mapUpdate
      simp only [Sem.run_bind, run_underlying' (TU.h (P := P) (t := t)), Result.andThen_ok, hget, hck, hfk, hx, Option.map_none]
      exact hset _
    · refine (h1.set_pt _).conv fun p hp => ⟨_, _, hp, ?_, fun j => ?_⟩
      · intro e he
        simp only [Array.toList_push, List.mem_append, List.mem_singleton] at he
        rcases he with he | rfl
        · exact h2 e he
        · exact ⟨k, rfl⟩
      · rw [Array.toList_push, mlook_push hx, updF, h3]
  | some i =>
    have hi : i < es.toList.length := (List.findIdx?_eq_some_iff_getElem.1 hx).1
    have hkey := (List.findIdx?_eq_some_iff_getElem.1 hx).2.1
    have hkk : (es[i]?).map (·.key) = some (.int .i64 k) := by
      obtain ⟨a, ha⟩ := h2 es.toList[i] (List.getElem_mem hi)
      have : a = k := by
        unfold isKey at hkey
        rw [ha] at hkey
        simpa using hkey
      have h5 : es[i]? = some es.toList[i] := by simp
      rw [h5, Option.map_some, ha, this]
    refine ⟨Sp.setObj w b (.map (es.modify i fun e => { e with key := .int .i64 k, val := v }) clock), ?_, ?_⟩
    · unfold Instr.mapUpdate
      simp only [Sem.run_bind, run_underlying' (TU.h (P := P) (t := t)), Result.andThen_ok, hget, hck, hfk, hx, Option.map_some, hkk, Option.getD_some]
      have hst : (Instr.keyThatStays (.int .i64 k) (.int .i64 k)).run P w = .ok (.int .i64 k) w := by simp [Instr.keyThatStays, Instr.sameBits]
      simp only [hst, Result.andThen_ok]
      exact hset _
    · refine (h1.set_pt _).conv fun p hp => ⟨_, _, hp, ?_, fun j => ?_⟩
      · intro e he
        obtain ⟨n, hn, rfl⟩ := List.getElem_of_mem he
        by_cases hni : n = i
        · subst hni; exact ⟨k, by simp⟩
        · simp only [Array.toList_modify] at hn ⊢
          rw [List.getElem_modify]
          simp only [Ne.symm hni, if_false]
          exact h2 _ (List.getElem_mem _)
      · rw [Array.toList_modify, mlook_modify hx, updF, h3]
theorem JO_mapUpdate {t kt et b : Nat} {q : IntKind} [TU P t (.map kt et)] [TU P kt (.int q)] {f : Int → Option Value} {M : List HP} {m x y : Operand} {k : Int} {v : Value} (hm : ev E m = some (.map (some b))) (hx : ev E x = some (.int .i64 k)) (hy : ev E y = some v)
    [hk : TkM b L f M] (hd : dok N d = true) (h : next (put E d undef) D (MpI b (updF f k v) :: M)) : JO P N rd ⟨d, .mapUpdate t m x y, ty, pos, after, g⟩ E D L next Q :=
  JO_unit (fun c => by simp) hd fun F a w hr hs => by
    obtain ⟨w', h1, h2⟩ := sat_mapUpdate (P := P) (t := t) (hs.perm (hk.h.cons F)).swap k v
    exact ⟨w', _, by simp [execOp, hr.eval hm, hr.eval hx, hr.eval hy, h1], h2.swap, h⟩
theorem JO_insert {t kt et b : Nat} {q : IntKind} [TU P t (.map kt et)] [TU P kt (.int q)] {f : Int → Option Value} {M : List HP} {m x y : Operand} {k : Int} {v : Value} (hm : ev E m = some (.map (some b))) (hx : ev E x = some (.int .i64 k)) (hy : ev E y = some v)
    [hk : TkM b L f M] (hd : dok N d = true) (h : next (put E d undef) D (MpI b (updF f k v) :: M)) : JO P N rd ⟨d, .insert t m x y, ty, pos, after, g⟩ E D L next Q :=
  JO_unit (fun c => by simp) hd fun F a w hr hs => by
    obtain ⟨w', h1, h2⟩ := sat_mapUpdate (P := P) (t := t) (hs.perm (hk.h.cons F)).swap k v
    exact ⟨w', _, by simp [execOp, hr.eval hm, hr.eval hx, hr.eval hy, h1], h2.swap, h⟩
theorem run_lookup {w : World} {t kt et b : Nat} {q : IntKind} [TU P t (.map kt et)] [TU P kt (.int q)] {z : Value} {n c : Nat} [TI P et z n c] {f : Int → Option Value} {L : List HP} (hs : Sat w (MpI b f :: L)) (k : Int) (ok : Bool) :
    (Instr.lookup t (.map (some b)) (.int .i64 k) ok).run P w = .ok (if ok then .tuple #[(f k).getD z, .bool (f k).isSome] else (f k).getD z) w := by
  obtain ⟨es, clock, h1, h2, h3⟩ := hs.map_open
  obtain ⟨i, hi, hz, _, _⟩ := TI.h (P := P) (t := et) (z := z) (n := n) (b := c)
  have hb := h1.pt_heap
  have hget : (getObj b).run P w = .ok (.map es clock) w := by simp [getObj, Sem.run, hb]
  have hfk := run_findKey (P := P) (TU.h (P := P) (t := kt)) k es.toList h2 w
  have hck := run_checkKey (P := P) (TU.h (P := P) (t := kt)) es.isEmpty k w
  have hl := h3 k
  rw [mlook_idx] at hl
  unfold Instr.lookup
  simp only [Sem.run_bind, run_underlying' (TU.h (P := P) (t := t)), Result.andThen_ok, hget, Sem.run_pure, hck, hfk]
  cases hx : es.toList.findIdx? (isKey k) with
  | none =>
    rw [hx] at hl
    simp only [Option.map_none] at hl ⊢
    cases ok <;> simp [run_zeroValue' hi hz, ← hl]
  | some j =>
    rw [hx] at hl
    simp only [Option.map_some] at hl ⊢
    cases ok <;> simp [← hl]
theorem JO_lookup {t kt et b : Nat} {q : IntKind} [TU P t (.map kt et)] [TU P kt (.int q)] {z : Value} {n c : Nat} [TI P et z n c] {f : Int → Option Value} {M : List HP} {m x : Operand} {k : Int} (hm : ev E m = some (.map (some b))) (hx : ev E x = some (.int .i64 k))
    [hk : TkM b L f M] (hd : dok N d = true) (h : next (put E d ((f k).getD z)) D L) : JO P N rd ⟨d, .lookup t m x false, ty, pos, after, g⟩ E D L next Q :=
  JO_value (fun c => by simp) hd fun F a w hr hs => by
    have h1 := run_lookup (P := P) (t := t) (z := z) (hs.perm (hk.h.cons F)).swap k false
    exact ⟨_, w, L, by simp [execOp, hr.eval hm, hr.eval hx, h1], hs, h⟩
theorem JO_lookupOk {t kt et b : Nat} {q : IntKind} [TU P t (.map kt et)] [TU P kt (.int q)] {z : Value} {n c : Nat} [TI P et z n c] {f : Int → Option Value} {M : List HP} {m x : Operand} {k : Int} (hm : ev E m = some (.map (some b))) (hx : ev E x = some (.int .i64 k))
    [hk : TkM b L f M] (hd : dok N d = true) (h : next (put E d (.tuple #[(f k).getD z, .bool (f k).isSome])) D L) : JO P N rd ⟨d, .lookup t m x true, ty, pos, after, g⟩ E D L next Q :=
  JO_value (fun c => by simp) hd fun F a w hr hs => by
    have h1 := run_lookup (P := P) (t := t) (z := z) (hs.perm (hk.h.cons F)).swap k true
    exact ⟨_, w, L, by simp [execOp, hr.eval hm, hr.eval hx, h1], hs, h⟩
end
end Go.Sp

/- Shifts; slices of slices. -/
namespace Go.Sp
open Go.RowKit

theorem fold_set : ∀ (cs : List Value) (j : Nat) (pre mid post : List Value), mid.length = j → cs.length ≤ post.length →
    ((cs.zipIdx j).foldl (fun (acc : Array Value) (x : Value × Nat) => acc.setIfInBounds (pre.length + x.2) x.1) (pre ++ mid ++ post).toArray) = (pre ++ mid ++ cs ++ post.drop cs.length).toArray := by
  intro cs
  induction cs with
  | nil => intro j pre mid post _ _; simp
  | cons c cs ih2 =>
    intro j pre mid post hm hl
    obtain ⟨p, post, rfl⟩ : ∃ p l, post = p :: l := by cases post with | nil => simp at hl | cons p l => exact ⟨p, l, rfl⟩
    have hset : (pre ++ mid ++ p :: post).set (pre.length + j) c = pre ++ (mid ++ [c]) ++ post := by
      rw [← hm, ← List.length_append, List.set_append_right _ _ (Nat.le_refl _)]
      simp
    simp only [List.zipIdx_cons, List.foldl_cons, List.setIfInBounds_toArray, hset]
    rw [ih2 (j + 1) pre (mid ++ [c]) post (by simp [hm]) (by simpa using hl)]
    simp
/-- What 'fill' does, on lists. -/
def fillL (pl : List (Nat × Nat)) : List Value → List (Nat × Value) → Option (List Value)
  | cells, [] => some cells
  | cells, (i, v) :: rest => match pl[i]? with
    | none => none
    | some (off, size) => match Nat.beq v.cells.toList.length size, Nat.ble (off + size) cells.length with
      | true, true => fillL pl (cells.take off ++ v.cells.toList ++ cells.drop (off + size)) rest
      | _, _ => none
theorem fill_eq (pl : List (Nat × Nat)) : ∀ (parts : List (Nat × Value)) (cells cs : List Value), fillL pl cells parts = some cs → Instr.fill (fun i => pl[i]?) cells.toArray parts = some cs.toArray := by
  intro parts
  induction parts with
  | nil => intro cells cs h; simp [fillL] at h; simp [Instr.fill, h]
  | cons p parts ih =>
    intro cells cs h
    obtain ⟨i, v⟩ := p
    simp only [fillL] at h
    simp only [Instr.fill]
    cases hp : pl[i]? with
    | none => simp [hp] at h
    | some q =>
      obtain ⟨off, size⟩ := q
      simp only [hp] at h ⊢
      split at h
      · rename_i h1 h2
        have h1 := Nat.eq_of_beq_eq_true h1
        have h2 := Nat.le_of_ble_eq_true h2
        have h1' : v.cells.size = size := by simpa using h1
        have hc : ¬ ((v.cells.size ≠ size || off + v.cells.size > cells.toArray.size) = true) := by simp [h1']; omega
        rw [if_neg hc]
        have hf := fold_set v.cells.toList 0 (cells.take off) [] (cells.drop off) rfl (by simp; omega)
        have ho : (cells.take off).length = off := by simp; omega
        simp only [List.append_nil, List.take_append_drop, ho, List.drop_drop, h1] at hf
        have : (v.cells.zipIdx.foldl (fun (cs : Array Value) (x : Value × Nat) => cs.setIfInBounds (off + x.2) x.1) cells.toArray) = (cells.take off ++ v.cells.toList ++ cells.drop (off + size)).toArray := by
          rw [← hf, ← Array.foldl_toList, Array.toList_zipIdx]
        rw [this]
        exact ih _ _ h
      · cases h
/-- A struct's places. -/
def placesOf (P : Program) (t : TypeId) : Option (List (Nat × Nat)) := match P.underlying t with
  | some (.struct fs) => fs.toList.mapM fun f => (P.info? f.type).map fun i => (f.offset, i.size)
  | _ => none
class TB (P : Program) (t : TypeId) (pl : outParam (List (Nat × Nat))) : Prop where h : placesOf P t = some pl
def pevs (E : Env) : List (Nat × Operand) → Option (List (Nat × Value))
  | [] => some []
  | (i, x) :: l => match ev E x, pevs E l with
    | some v, some vs => some ((i, v) :: vs)
    | _, _ => none
theorem Rep.pevs {N : Nat} {E : Env} {D : List Deferred} {a : Act} (hr : Rep N E D a) : ∀ {l : List (Nat × Operand)} {vs : List (Nat × Value)}, Sp.pevs E l = some vs → l.map (fun x => (x.1, a.eval x.2)) = vs := by
  intro l
  induction l with
  | nil => intro vs h; simp [Sp.pevs] at h; simp [h]
  | cons p l ih =>
    intro vs h
    obtain ⟨i, x⟩ := p
    simp only [Sp.pevs] at h
    split at h
    · rename_i v vs' h1 h2
      cases h
      simp [hr.eval h1, ih h2]
    · cases h
theorem run_places {P : Program} (fs : List Field) (pl : List (Nat × Nat)) (h : (fs.mapM fun f => (P.info? f.type).map fun i => (f.offset, i.size)) = some pl) (w : World) : (fs.mapM fun f => Prod.mk f.offset <$> sizeOf f.type : Sem (List (Nat × Nat))).run P w = .ok pl w := by
  induction fs generalizing pl with
  | nil => simp at h; simp [← h]
  | cons f fs ih =>
    rw [List.mapM_cons] at h
    simp only [Option.bind_eq_bind, Option.bind_eq_some_iff, Option.map_eq_some_iff, Option.pure_def, Option.some.injEq] at h
    obtain ⟨q, ⟨i, hi, rfl⟩, ps, hps, rfl⟩ := h
    rw [List.mapM_cons]
    simp [run_sizeOf' hi, ih ps hps]

section
variable {P : Program} {N : Nat} {rd : Option Nat} {E : Env} {D : List Deferred} {L : List HP} {Q : Post} {next : Env → List Deferred → List HP → Prop}
variable {d : Option Nat} {ty : TypeId} {pos : String} {after : Array Edge} {g : Option (Nat × Bool)}
theorem JO_shrK {x y : Operand} {m n : Int} {t u : TypeId} {k yk : IntKind} (hx : ev E x = some (.int k m)) (hy : ev E y = some (.int yk n)) (hn : 0 ≤ n ∧ n ≤ k.bits) (hd : dok N d = true) (h : next (put E d (.int k (m / 2 ^ n.toNat))) D L) : JO P N rd ⟨d, .binOp .shr t x y u, ty, pos, after, g⟩ E D L next Q :=
  JO_pure _ (fun c => by simp) hd (fun a w hr => by simp [execOp, hr.eval hx, hr.eval hy, eqGuard, binOp, shift_shr k yk m n hn.1 hn.2]) h
theorem JO_build {t : TypeId} {zc : List Value} {n k : Nat} [TI P t (.agg zc.toArray) n k] {pl : List (Nat × Nat)} [TB P t pl] {parts : Array (Nat × Operand)} {vs : List (Nat × Value)} {cs : List Value} (hp : pevs E parts.toList = some vs) (hf : fillL pl zc vs = some cs)
    (hd : dok N d = true) (h : next (put E d (.agg cs.toArray)) D L) : JO P N rd ⟨d, .build t parts, ty, pos, after, g⟩ E D L next Q :=
  JO_value (fun c => by simp) hd fun F a w hr hs => ⟨_, w, L, by
    obtain ⟨i, h1, h2, h3, h4⟩ := TI.h (P := P) (t := t) (z := .agg zc.toArray) (n := n) (b := k)
    have hpl := TB.h (P := P) (t := t) (pl := pl)
    unfold placesOf at hpl
    cases hu : P.underlying t with
    | none => simp [hu] at hpl
    | some td =>
      cases td with
      | struct fs =>
        simp only [hu] at hpl
        have h5 := run_places _ _ hpl w
        have h6 := fill_eq pl vs zc cs hf
        have h7 := hr.pevs hp
        have h8 : (fs.mapM fun f => Prod.mk f.offset <$> sizeOf f.type : Sem (Array (Nat × Nat))).run P w = .ok pl.toArray w := by
          rw [Array.mapM_eq_mapM_toList]
          simp only [Sem.run_map, h5]
          rfl
        simp [execOp, Instr.build, run_zeroValue' h1 h2, run_underlying' hu, h8, Value.cells, Array.toList_map, h7, h6]
      | _ => simp [hu] at hpl, hs, h⟩
theorem run_loadVarW {t n : TypeId} [TA P t n] {b : Nat} {cs : List Value} {bt : TypeId} {fz : Nat × Nat} [hb : HB L b (.cells cs.toArray bt fz)] (hn : cs.length = n) {F : HP} {w : World} (hs : Sat w (F :: L)) : (loadVar t ⟨b, 0, none⟩).run P w = .ok (.agg cs.toArray) w := by
  obtain ⟨_, i, hi, hsz⟩ := TA.h (P := P) (t := t) (n := n)
  have h1 := run_loadCells_block (P := P) (off := 0) (n := n) (hb.h F w hs) (by omega)
  rw [List.drop_zero, List.take_of_length_le (by omega)] at h1
  simp [loadVar, run_isAggA (P := P) (t := t) (n := n), run_sizeOf' hi, hsz, h1]
theorem res_cellW {fn : Func} {a t n : Nat} [TA P t n] {b : Nat} {cs : List Value} {bt : TypeId} {fz : Nat × Nat} (h : fn.results = #[.cell a t]) (hv : Env.get E a = some (.pointer (some ⟨b, 0, none⟩))) [hb : HB L b (.cells cs.toArray bt fz)] (hn : cs.length = n) : Res P N fn E L (.agg cs.toArray) := fun F c w _ hr hs => by
  have h1 : (c.tmps.getD a undef) = .pointer (some ⟨b, 0, none⟩) := hr.eval (x := .tmp a) hv
  have h2 := run_loadVarW (P := P) (L := L) (t := t) (n := n) (b := b) (cs := cs) (bt := bt) (fz := fz) hn hs
  have h1 := Array.getD_eq_getD_getElem? .. ▸ h1
  simp [results, h, h1, asAddr, h2]
theorem res_cellW3 {fn : Func} {a t n u s : Nat} [TA P t n] {b : Nat} {cs : List Value} {bt : TypeId} {fz : Nat × Nat} {x y : Value} (h : fn.results = #[.cell a t, .tmp u, .tmp s]) (hv : Env.get E a = some (.pointer (some ⟨b, 0, none⟩))) (hx : Env.get E u = some x) (hy : Env.get E s = some y) [hb : HB L b (.cells cs.toArray bt fz)] (hn : cs.length = n) : Res P N fn E L (.tuple #[.agg cs.toArray, x, y]) := fun F c w _ hr hs => by
  have h1 : (c.tmps.getD a undef) = .pointer (some ⟨b, 0, none⟩) := hr.eval (x := .tmp a) hv
  have h3 : (c.tmps.getD u undef) = x := hr.eval (x := .tmp u) hx
  have h4 : (c.tmps.getD s undef) = y := hr.eval (x := .tmp s) hy
  have h2 := run_loadVarW (P := P) (L := L) (t := t) (n := n) (b := b) (cs := cs) (bt := bt) (fz := fz) hn hs
  have h1 := Array.getD_eq_getD_getElem? .. ▸ h1
  simp [results, h, h1, ← h3, ← h4, asAddr, h2]
theorem ret_cell {α : Type} {φ : α → Prop} {v : α → Value} {L0 : α → List HP} {fn : Func} {a t n : Nat} [TA P t n] {b : Nat} {cs : List Value} {bt : TypeId} {fz : Nat × Nat} (hr : fn.results = #[.cell a t]) (hv : Env.get E a = some (.pointer (some ⟨b, 0, none⟩))) [hb : HB L b (.cells cs.toArray bt fz)] (hn : cs.length = n) (x : α) (hφ : φ x) (hu : .agg cs.toArray = v x) (he : Ent L (L0 x)) :
    bodyQ P N fn (fun e L => ∃ L', Ent L L' ∧ RetE φ v L0 e L') .ret E [] L := ⟨rfl, _, res_cellW (b := b) (cs := cs) (bt := bt) (fz := fz) hr hv hn, _, he, x, hφ, by rw [hu], rfl⟩
theorem ret_cell3 {α : Type} {φ : α → Prop} {v : α → Value} {L0 : α → List HP} {fn : Func} {a t n u s : Nat} [TA P t n] {b : Nat} {cs : List Value} {bt : TypeId} {fz : Nat × Nat} {y z : Value} (hr : fn.results = #[.cell a t, .tmp u, .tmp s]) (hv : Env.get E a = some (.pointer (some ⟨b, 0, none⟩))) (hy : Env.get E u = some y) (hz : Env.get E s = some z) [hb : HB L b (.cells cs.toArray bt fz)] (hn : cs.length = n) (x : α) (hφ : φ x) (hu : .tuple #[.agg cs.toArray, y, z] = v x) (he : Ent L (L0 x)) :
    bodyQ P N fn (fun e L => ∃ L', Ent L L' ∧ RetE φ v L0 e L') .ret E [] L := ⟨rfl, _, res_cellW3 (b := b) (cs := cs) (bt := bt) (fz := fz) hr hv hy hz hn, _, he, x, hφ, by rw [hu], rfl⟩
end
end Go.Sp

/- What the rules' classes tell of this seat's types and functions. Printed by facts.py, a program of this claim's own. -/
namespace Go.Proofs.YtfelcdbhlahehaaDoor
open Go Go.Sp
instance i0 : TI Tryd.prog 0 (.tuple #[]) 1 0 := TI.mk' (by kernel_rfl)
instance i1 : TI Tryd.prog 1 (.nilFunc) 1 8 := TI.mk' (by kernel_rfl)
instance o1 : T1 Tryd.prog 1 := T1.mk' (by kernel_rfl)
instance u2 : TU Tryd.prog 2 (.int .i64) := ⟨by kernel_rfl⟩
instance i2 : TI Tryd.prog 2 (.int .i64 0) 1 8 := TI.mk' (by kernel_rfl)
instance o2 : T1 Tryd.prog 2 := T1.mk' (by kernel_rfl)
instance u3 : TU Tryd.prog 3 (.int .i64) := ⟨by kernel_rfl⟩
instance i3 : TI Tryd.prog 3 (.int .i64 0) 1 8 := TI.mk' (by kernel_rfl)
instance o3 : T1 Tryd.prog 3 := T1.mk' (by kernel_rfl)
instance u4 : TU Tryd.prog 4 .bool := ⟨by kernel_rfl⟩
instance i4 : TI Tryd.prog 4 (.bool false) 1 1 := TI.mk' (by kernel_rfl)
instance o4 : T1 Tryd.prog 4 := T1.mk' (by kernel_rfl)
instance u5 : TU Tryd.prog 5 (.int .u8) := ⟨by kernel_rfl⟩
instance i5 : TI Tryd.prog 5 (.int .u8 0) 1 1 := TI.mk' (by kernel_rfl)
instance o5 : T1 Tryd.prog 5 := T1.mk' (by kernel_rfl)
instance u6 : TU Tryd.prog 6 (.int .u8) := ⟨by kernel_rfl⟩
instance i6 : TI Tryd.prog 6 (.int .u8 0) 1 1 := TI.mk' (by kernel_rfl)
instance o6 : T1 Tryd.prog 6 := T1.mk' (by kernel_rfl)
instance u7 : TU Tryd.prog 7 (.struct (structFields Tryd.prog 7)) := ⟨by kernel_rfl⟩
instance i7 : TI Tryd.prog 7 (.agg #[.int .i64 0, .int .i64 0, .bool false, .int .u8 0]) 4 24 := TI.mk' (by kernel_rfl)
instance a7 : TA Tryd.prog 7 4 := TA.mk' (by kernel_rfl)
instance f7_0 : TF Tryd.prog 7 0 0 2 1 := TF.mk' (by kernel_rfl) (by kernel_rfl)
instance f7_1 : TF Tryd.prog 7 1 1 3 1 := TF.mk' (by kernel_rfl) (by kernel_rfl)
instance f7_2 : TF Tryd.prog 7 2 2 4 1 := TF.mk' (by kernel_rfl) (by kernel_rfl)
instance f7_3 : TF Tryd.prog 7 3 3 6 1 := TF.mk' (by kernel_rfl) (by kernel_rfl)
instance b7 : TB Tryd.prog 7 [(0, 1), (1, 1), (2, 1), (3, 1)] := ⟨by kernel_rfl⟩
instance u8 : TU Tryd.prog 8 (.struct (structFields Tryd.prog 8)) := ⟨by kernel_rfl⟩
instance i8 : TI Tryd.prog 8 (.agg #[.int .i64 0, .int .i64 0, .bool false, .int .u8 0]) 4 24 := TI.mk' (by kernel_rfl)
instance a8 : TA Tryd.prog 8 4 := TA.mk' (by kernel_rfl)
instance f8_0 : TF Tryd.prog 8 0 0 2 1 := TF.mk' (by kernel_rfl) (by kernel_rfl)
instance f8_1 : TF Tryd.prog 8 1 1 3 1 := TF.mk' (by kernel_rfl) (by kernel_rfl)
instance f8_2 : TF Tryd.prog 8 2 2 4 1 := TF.mk' (by kernel_rfl) (by kernel_rfl)
instance f8_3 : TF Tryd.prog 8 3 3 6 1 := TF.mk' (by kernel_rfl) (by kernel_rfl)
instance b8 : TB Tryd.prog 8 [(0, 1), (1, 1), (2, 1), (3, 1)] := ⟨by kernel_rfl⟩
instance u9 : TU Tryd.prog 9 .string := ⟨by kernel_rfl⟩
instance i9 : TI Tryd.prog 9 (.string ⟨#[]⟩) 1 16 := TI.mk' (by kernel_rfl)
instance o9 : T1 Tryd.prog 9 := T1.mk' (by kernel_rfl)
instance u10 : TU Tryd.prog 10 .string := ⟨by kernel_rfl⟩
instance i10 : TI Tryd.prog 10 (.string ⟨#[]⟩) 1 16 := TI.mk' (by kernel_rfl)
instance o10 : T1 Tryd.prog 10 := T1.mk' (by kernel_rfl)
instance u11 : TU Tryd.prog 11 .string := ⟨by kernel_rfl⟩
instance i11 : TI Tryd.prog 11 (.string ⟨#[]⟩) 1 16 := TI.mk' (by kernel_rfl)
instance o11 : T1 Tryd.prog 11 := T1.mk' (by kernel_rfl)
instance u12 : TU Tryd.prog 12 (.int .u64) := ⟨by kernel_rfl⟩
instance i12 : TI Tryd.prog 12 (.int .u64 0) 1 8 := TI.mk' (by kernel_rfl)
instance o12 : T1 Tryd.prog 12 := T1.mk' (by kernel_rfl)
instance u13 : TU Tryd.prog 13 (.struct (structFields Tryd.prog 13)) := ⟨by kernel_rfl⟩
instance i13 : TI Tryd.prog 13 (.agg #[.string ⟨#[]⟩, .int .u64 0]) 2 24 := TI.mk' (by kernel_rfl)
instance a13 : TA Tryd.prog 13 2 := TA.mk' (by kernel_rfl)
instance f13_0 : TF Tryd.prog 13 0 0 9 1 := TF.mk' (by kernel_rfl) (by kernel_rfl)
instance f13_1 : TF Tryd.prog 13 1 1 12 1 := TF.mk' (by kernel_rfl) (by kernel_rfl)
instance b13 : TB Tryd.prog 13 [(0, 1), (1, 1)] := ⟨by kernel_rfl⟩
instance u14 : TU Tryd.prog 14 (.struct (structFields Tryd.prog 14)) := ⟨by kernel_rfl⟩
instance i14 : TI Tryd.prog 14 (.agg #[.string ⟨#[]⟩, .int .u64 0]) 2 24 := TI.mk' (by kernel_rfl)
instance a14 : TA Tryd.prog 14 2 := TA.mk' (by kernel_rfl)
instance f14_0 : TF Tryd.prog 14 0 0 9 1 := TF.mk' (by kernel_rfl) (by kernel_rfl)
instance f14_1 : TF Tryd.prog 14 1 1 12 1 := TF.mk' (by kernel_rfl) (by kernel_rfl)
instance b14 : TB Tryd.prog 14 [(0, 1), (1, 1)] := ⟨by kernel_rfl⟩
instance u15 : TU Tryd.prog 15 (.pointer 200) := ⟨by kernel_rfl⟩
instance i15 : TI Tryd.prog 15 (.pointer none) 1 8 := TI.mk' (by kernel_rfl)
instance o15 : T1 Tryd.prog 15 := T1.mk' (by kernel_rfl)
instance u16 : TU Tryd.prog 16 (.pointer 203) := ⟨by kernel_rfl⟩
instance i16 : TI Tryd.prog 16 (.pointer none) 1 8 := TI.mk' (by kernel_rfl)
instance o16 : T1 Tryd.prog 16 := T1.mk' (by kernel_rfl)
instance u17 : TU Tryd.prog 17 (.pointer 211) := ⟨by kernel_rfl⟩
instance i17 : TI Tryd.prog 17 (.pointer none) 1 8 := TI.mk' (by kernel_rfl)
instance o17 : T1 Tryd.prog 17 := T1.mk' (by kernel_rfl)
instance u18 : TU Tryd.prog 18 (.struct (structFields Tryd.prog 18)) := ⟨by kernel_rfl⟩
instance i18 : TI Tryd.prog 18 (.agg #[.pointer none]) 1 8 := TI.mk' (by kernel_rfl)
instance a18 : TA Tryd.prog 18 1 := TA.mk' (by kernel_rfl)
instance f18_0 : TF Tryd.prog 18 0 0 17 1 := TF.mk' (by kernel_rfl) (by kernel_rfl)
instance b18 : TB Tryd.prog 18 [(0, 1)] := ⟨by kernel_rfl⟩
instance u19 : TU Tryd.prog 19 (.struct (structFields Tryd.prog 19)) := ⟨by kernel_rfl⟩
instance i19 : TI Tryd.prog 19 (.agg #[.pointer none]) 1 8 := TI.mk' (by kernel_rfl)
instance a19 : TA Tryd.prog 19 1 := TA.mk' (by kernel_rfl)
instance f19_0 : TF Tryd.prog 19 0 0 17 1 := TF.mk' (by kernel_rfl) (by kernel_rfl)
instance b19 : TB Tryd.prog 19 [(0, 1)] := ⟨by kernel_rfl⟩
instance i20 : TI Tryd.prog 20 (.nilIface) 1 16 := TI.mk' (by kernel_rfl)
instance o20 : T1 Tryd.prog 20 := T1.mk' (by kernel_rfl)
instance u21 : TU Tryd.prog 21 (.int .i32) := ⟨by kernel_rfl⟩
instance i21 : TI Tryd.prog 21 (.int .i32 0) 1 4 := TI.mk' (by kernel_rfl)
instance o21 : T1 Tryd.prog 21 := T1.mk' (by kernel_rfl)
instance u22 : TU Tryd.prog 22 (.array 3 9) := ⟨by kernel_rfl⟩
instance i22 : TI Tryd.prog 22 (.agg #[.string ⟨#[]⟩, .string ⟨#[]⟩, .string ⟨#[]⟩]) 3 48 := TI.mk' (by kernel_rfl)
instance a22 : TA Tryd.prog 22 3 := TA.mk' (by kernel_rfl)
instance u23 : TU Tryd.prog 23 (.int .u16) := ⟨by kernel_rfl⟩
instance i23 : TI Tryd.prog 23 (.int .u16 0) 1 2 := TI.mk' (by kernel_rfl)
instance o23 : T1 Tryd.prog 23 := T1.mk' (by kernel_rfl)
instance u24 : TU Tryd.prog 24 (.struct (structFields Tryd.prog 24)) := ⟨by kernel_rfl⟩
instance i24 : TI Tryd.prog 24 (.agg #[.int .u16 0, .int .u8 0, .int .i64 0]) 3 16 := TI.mk' (by kernel_rfl)
instance a24 : TA Tryd.prog 24 3 := TA.mk' (by kernel_rfl)
instance f24_0 : TF Tryd.prog 24 0 0 23 1 := TF.mk' (by kernel_rfl) (by kernel_rfl)
instance f24_1 : TF Tryd.prog 24 1 1 5 1 := TF.mk' (by kernel_rfl) (by kernel_rfl)
instance f24_2 : TF Tryd.prog 24 2 2 3 1 := TF.mk' (by kernel_rfl) (by kernel_rfl)
instance b24 : TB Tryd.prog 24 [(0, 1), (1, 1), (2, 1)] := ⟨by kernel_rfl⟩
instance u25 : TU Tryd.prog 25 (.struct (structFields Tryd.prog 25)) := ⟨by kernel_rfl⟩
instance i25 : TI Tryd.prog 25 (.agg #[.int .u16 0, .int .u8 0, .int .i64 0]) 3 16 := TI.mk' (by kernel_rfl)
instance a25 : TA Tryd.prog 25 3 := TA.mk' (by kernel_rfl)
instance f25_0 : TF Tryd.prog 25 0 0 23 1 := TF.mk' (by kernel_rfl) (by kernel_rfl)
instance f25_1 : TF Tryd.prog 25 1 1 5 1 := TF.mk' (by kernel_rfl) (by kernel_rfl)
instance f25_2 : TF Tryd.prog 25 2 2 3 1 := TF.mk' (by kernel_rfl) (by kernel_rfl)
instance b25 : TB Tryd.prog 25 [(0, 1), (1, 1), (2, 1)] := ⟨by kernel_rfl⟩
instance u26 : TU Tryd.prog 26 (.int .i64) := ⟨by kernel_rfl⟩
instance i26 : TI Tryd.prog 26 (.int .i64 0) 1 8 := TI.mk' (by kernel_rfl)
instance o26 : T1 Tryd.prog 26 := T1.mk' (by kernel_rfl)
instance i27 : TI Tryd.prog 27 (.tuple #[.string ⟨#[]⟩, .int .i64 0]) 1 0 := TI.mk' (by kernel_rfl)
instance i28 : TI Tryd.prog 28 (.nilFunc) 1 8 := TI.mk' (by kernel_rfl)
instance o28 : T1 Tryd.prog 28 := T1.mk' (by kernel_rfl)
instance i29 : TI Tryd.prog 29 (.nilFunc) 1 8 := TI.mk' (by kernel_rfl)
instance o29 : T1 Tryd.prog 29 := T1.mk' (by kernel_rfl)
instance u30 : TU Tryd.prog 30 (.int .u32) := ⟨by kernel_rfl⟩
instance i30 : TI Tryd.prog 30 (.int .u32 0) 1 4 := TI.mk' (by kernel_rfl)
instance o30 : T1 Tryd.prog 30 := T1.mk' (by kernel_rfl)
instance i31 : TI Tryd.prog 31 (.nilFunc) 1 8 := TI.mk' (by kernel_rfl)
instance o31 : T1 Tryd.prog 31 := T1.mk' (by kernel_rfl)
instance i32 : TI Tryd.prog 32 (.nilFunc) 1 8 := TI.mk' (by kernel_rfl)
instance o32 : T1 Tryd.prog 32 := T1.mk' (by kernel_rfl)
instance i33 : TI Tryd.prog 33 (.nilFunc) 1 8 := TI.mk' (by kernel_rfl)
instance o33 : T1 Tryd.prog 33 := T1.mk' (by kernel_rfl)
instance i34 : TI Tryd.prog 34 (.nilFunc) 1 8 := TI.mk' (by kernel_rfl)
instance o34 : T1 Tryd.prog 34 := T1.mk' (by kernel_rfl)
instance i35 : TI Tryd.prog 35 (.nilFunc) 1 8 := TI.mk' (by kernel_rfl)
instance o35 : T1 Tryd.prog 35 := T1.mk' (by kernel_rfl)
instance u36 : TU Tryd.prog 36 (.pointer 101) := ⟨by kernel_rfl⟩
instance i36 : TI Tryd.prog 36 (.pointer none) 1 8 := TI.mk' (by kernel_rfl)
instance o36 : T1 Tryd.prog 36 := T1.mk' (by kernel_rfl)
instance u37 : TU Tryd.prog 37 (.array 3 36) := ⟨by kernel_rfl⟩
instance i37 : TI Tryd.prog 37 (.agg #[.pointer none, .pointer none, .pointer none]) 3 24 := TI.mk' (by kernel_rfl)
instance a37 : TA Tryd.prog 37 3 := TA.mk' (by kernel_rfl)
instance i38 : TI Tryd.prog 38 (.nilIface) 1 16 := TI.mk' (by kernel_rfl)
instance o38 : T1 Tryd.prog 38 := T1.mk' (by kernel_rfl)
instance i39 : TI Tryd.prog 39 (.nilIface) 1 16 := TI.mk' (by kernel_rfl)
instance o39 : T1 Tryd.prog 39 := T1.mk' (by kernel_rfl)
instance i40 : TI Tryd.prog 40 (.tuple #[.agg #[.pointer none, .pointer none, .pointer none], .nilIface]) 1 0 := TI.mk' (by kernel_rfl)
instance i41 : TI Tryd.prog 41 (.nilFunc) 1 8 := TI.mk' (by kernel_rfl)
instance o41 : T1 Tryd.prog 41 := T1.mk' (by kernel_rfl)
instance i42 : TI Tryd.prog 42 (.tuple #[.string ⟨#[]⟩, .int .i64 0]) 1 0 := TI.mk' (by kernel_rfl)
instance i43 : TI Tryd.prog 43 (.nilFunc) 1 8 := TI.mk' (by kernel_rfl)
instance o43 : T1 Tryd.prog 43 := T1.mk' (by kernel_rfl)
instance i44 : TI Tryd.prog 44 (.nilFunc) 1 8 := TI.mk' (by kernel_rfl)
instance o44 : T1 Tryd.prog 44 := T1.mk' (by kernel_rfl)
instance i45 : TI Tryd.prog 45 (.nilFunc) 1 8 := TI.mk' (by kernel_rfl)
instance o45 : T1 Tryd.prog 45 := T1.mk' (by kernel_rfl)
instance u46 : TU Tryd.prog 46 (.struct (structFields Tryd.prog 46)) := ⟨by kernel_rfl⟩
instance i46 : TI Tryd.prog 46 (.agg #[.int .i64 0, .int .i64 0]) 2 16 := TI.mk' (by kernel_rfl)
instance a46 : TA Tryd.prog 46 2 := TA.mk' (by kernel_rfl)
instance f46_0 : TF Tryd.prog 46 0 0 26 1 := TF.mk' (by kernel_rfl) (by kernel_rfl)
instance f46_1 : TF Tryd.prog 46 1 1 3 1 := TF.mk' (by kernel_rfl) (by kernel_rfl)
instance b46 : TB Tryd.prog 46 [(0, 1), (1, 1)] := ⟨by kernel_rfl⟩
instance u47 : TU Tryd.prog 47 (.struct (structFields Tryd.prog 47)) := ⟨by kernel_rfl⟩
instance i47 : TI Tryd.prog 47 (.agg #[.int .i64 0, .int .i64 0]) 2 16 := TI.mk' (by kernel_rfl)
instance a47 : TA Tryd.prog 47 2 := TA.mk' (by kernel_rfl)
instance f47_0 : TF Tryd.prog 47 0 0 26 1 := TF.mk' (by kernel_rfl) (by kernel_rfl)
instance f47_1 : TF Tryd.prog 47 1 1 3 1 := TF.mk' (by kernel_rfl) (by kernel_rfl)
instance b47 : TB Tryd.prog 47 [(0, 1), (1, 1)] := ⟨by kernel_rfl⟩
instance i48 : TI Tryd.prog 48 (.nilFunc) 1 8 := TI.mk' (by kernel_rfl)
instance o48 : T1 Tryd.prog 48 := T1.mk' (by kernel_rfl)
instance u49 : TU Tryd.prog 49 (.slice 5) := ⟨by kernel_rfl⟩
instance i49 : TI Tryd.prog 49 (.slice none 0 0) 1 24 := TI.mk' (by kernel_rfl)
instance o49 : T1 Tryd.prog 49 := T1.mk' (by kernel_rfl)
instance i50 : TI Tryd.prog 50 (.nilFunc) 1 8 := TI.mk' (by kernel_rfl)
instance o50 : T1 Tryd.prog 50 := T1.mk' (by kernel_rfl)
instance i51 : TI Tryd.prog 51 (.nilFunc) 1 8 := TI.mk' (by kernel_rfl)
instance o51 : T1 Tryd.prog 51 := T1.mk' (by kernel_rfl)
instance u52 : TU Tryd.prog 52 (.pointer 54) := ⟨by kernel_rfl⟩
instance i52 : TI Tryd.prog 52 (.pointer none) 1 8 := TI.mk' (by kernel_rfl)
instance o52 : T1 Tryd.prog 52 := T1.mk' (by kernel_rfl)
instance u53 : TU Tryd.prog 53 (.struct (structFields Tryd.prog 53)) := ⟨by kernel_rfl⟩
instance i53 : TI Tryd.prog 53 (.agg #[.string ⟨#[]⟩, .int .i64 0, .int .i64 0]) 3 32 := TI.mk' (by kernel_rfl)
instance a53 : TA Tryd.prog 53 3 := TA.mk' (by kernel_rfl)
instance f53_0 : TF Tryd.prog 53 0 0 9 1 := TF.mk' (by kernel_rfl) (by kernel_rfl)
instance f53_1 : TF Tryd.prog 53 1 1 3 1 := TF.mk' (by kernel_rfl) (by kernel_rfl)
instance f53_2 : TF Tryd.prog 53 2 2 3 1 := TF.mk' (by kernel_rfl) (by kernel_rfl)
instance b53 : TB Tryd.prog 53 [(0, 1), (1, 1), (2, 1)] := ⟨by kernel_rfl⟩
instance u54 : TU Tryd.prog 54 (.struct (structFields Tryd.prog 54)) := ⟨by kernel_rfl⟩
instance i54 : TI Tryd.prog 54 (.agg #[.string ⟨#[]⟩, .int .i64 0, .int .i64 0]) 3 32 := TI.mk' (by kernel_rfl)
instance a54 : TA Tryd.prog 54 3 := TA.mk' (by kernel_rfl)
instance f54_0 : TF Tryd.prog 54 0 0 9 1 := TF.mk' (by kernel_rfl) (by kernel_rfl)
instance f54_1 : TF Tryd.prog 54 1 1 3 1 := TF.mk' (by kernel_rfl) (by kernel_rfl)
instance f54_2 : TF Tryd.prog 54 2 2 3 1 := TF.mk' (by kernel_rfl) (by kernel_rfl)
instance b54 : TB Tryd.prog 54 [(0, 1), (1, 1), (2, 1)] := ⟨by kernel_rfl⟩
instance u55 : TU Tryd.prog 55 (.slice 3) := ⟨by kernel_rfl⟩
instance i55 : TI Tryd.prog 55 (.slice none 0 0) 1 24 := TI.mk' (by kernel_rfl)
instance o55 : T1 Tryd.prog 55 := T1.mk' (by kernel_rfl)
instance u56 : TU Tryd.prog 56 (.struct (structFields Tryd.prog 56)) := ⟨by kernel_rfl⟩
instance i56 : TI Tryd.prog 56 (.agg #[.int .i64 0, .int .i64 0, .int .i64 0, .int .i64 0, .int .i64 0, .slice none 0 0]) 6 64 := TI.mk' (by kernel_rfl)
instance a56 : TA Tryd.prog 56 6 := TA.mk' (by kernel_rfl)
instance f56_0 : TF Tryd.prog 56 0 0 3 1 := TF.mk' (by kernel_rfl) (by kernel_rfl)
instance f56_1 : TF Tryd.prog 56 1 1 2 1 := TF.mk' (by kernel_rfl) (by kernel_rfl)
instance f56_2 : TF Tryd.prog 56 2 2 3 1 := TF.mk' (by kernel_rfl) (by kernel_rfl)
instance f56_3 : TF Tryd.prog 56 3 3 3 1 := TF.mk' (by kernel_rfl) (by kernel_rfl)
instance f56_4 : TF Tryd.prog 56 4 4 3 1 := TF.mk' (by kernel_rfl) (by kernel_rfl)
instance f56_5 : TF Tryd.prog 56 5 5 55 1 := TF.mk' (by kernel_rfl) (by kernel_rfl)
instance b56 : TB Tryd.prog 56 [(0, 1), (1, 1), (2, 1), (3, 1), (4, 1), (5, 1)] := ⟨by kernel_rfl⟩
instance u57 : TU Tryd.prog 57 (.struct (structFields Tryd.prog 57)) := ⟨by kernel_rfl⟩
instance i57 : TI Tryd.prog 57 (.agg #[.int .i64 0, .int .i64 0, .int .i64 0, .int .i64 0, .int .i64 0, .slice none 0 0]) 6 64 := TI.mk' (by kernel_rfl)
instance a57 : TA Tryd.prog 57 6 := TA.mk' (by kernel_rfl)
instance f57_0 : TF Tryd.prog 57 0 0 3 1 := TF.mk' (by kernel_rfl) (by kernel_rfl)
instance f57_1 : TF Tryd.prog 57 1 1 2 1 := TF.mk' (by kernel_rfl) (by kernel_rfl)
instance f57_2 : TF Tryd.prog 57 2 2 3 1 := TF.mk' (by kernel_rfl) (by kernel_rfl)
instance f57_3 : TF Tryd.prog 57 3 3 3 1 := TF.mk' (by kernel_rfl) (by kernel_rfl)
instance f57_4 : TF Tryd.prog 57 4 4 3 1 := TF.mk' (by kernel_rfl) (by kernel_rfl)
instance f57_5 : TF Tryd.prog 57 5 5 55 1 := TF.mk' (by kernel_rfl) (by kernel_rfl)
instance b57 : TB Tryd.prog 57 [(0, 1), (1, 1), (2, 1), (3, 1), (4, 1), (5, 1)] := ⟨by kernel_rfl⟩
instance i58 : TI Tryd.prog 58 (.tuple #[.agg #[.int .i64 0, .int .i64 0, .int .i64 0, .int .i64 0, .int .i64 0, .slice none 0 0], .nilIface]) 1 0 := TI.mk' (by kernel_rfl)
instance i59 : TI Tryd.prog 59 (.nilFunc) 1 8 := TI.mk' (by kernel_rfl)
instance o59 : T1 Tryd.prog 59 := T1.mk' (by kernel_rfl)
instance i60 : TI Tryd.prog 60 (.tuple #[.agg #[.int .i64 0, .int .i64 0, .int .i64 0, .int .i64 0, .int .i64 0, .slice none 0 0], .agg #[.int .i64 0, .int .i64 0]]) 1 0 := TI.mk' (by kernel_rfl)
instance i61 : TI Tryd.prog 61 (.nilFunc) 1 8 := TI.mk' (by kernel_rfl)
instance o61 : T1 Tryd.prog 61 := T1.mk' (by kernel_rfl)
instance i62 : TI Tryd.prog 62 (.nilFunc) 1 8 := TI.mk' (by kernel_rfl)
instance o62 : T1 Tryd.prog 62 := T1.mk' (by kernel_rfl)
instance i63 : TI Tryd.prog 63 (.nilFunc) 1 8 := TI.mk' (by kernel_rfl)
instance o63 : T1 Tryd.prog 63 := T1.mk' (by kernel_rfl)
instance i64 : TI Tryd.prog 64 (.nilFunc) 1 8 := TI.mk' (by kernel_rfl)
instance o64 : T1 Tryd.prog 64 := T1.mk' (by kernel_rfl)
instance i65 : TI Tryd.prog 65 (.nilFunc) 1 8 := TI.mk' (by kernel_rfl)
instance o65 : T1 Tryd.prog 65 := T1.mk' (by kernel_rfl)
instance i66 : TI Tryd.prog 66 (.nilFunc) 1 8 := TI.mk' (by kernel_rfl)
instance o66 : T1 Tryd.prog 66 := T1.mk' (by kernel_rfl)
instance i67 : TI Tryd.prog 67 (.nilFunc) 1 8 := TI.mk' (by kernel_rfl)
instance o67 : T1 Tryd.prog 67 := T1.mk' (by kernel_rfl)
instance u68 : TU Tryd.prog 68 (.array 10 3) := ⟨by kernel_rfl⟩
instance i68 : TI Tryd.prog 68 (.agg #[.int .i64 0, .int .i64 0, .int .i64 0, .int .i64 0, .int .i64 0, .int .i64 0, .int .i64 0, .int .i64 0, .int .i64 0, .int .i64 0]) 10 80 := TI.mk' (by kernel_rfl)
instance a68 : TA Tryd.prog 68 10 := TA.mk' (by kernel_rfl)
instance i69 : TI Tryd.prog 69 (.nilFunc) 1 8 := TI.mk' (by kernel_rfl)
instance o69 : T1 Tryd.prog 69 := T1.mk' (by kernel_rfl)
instance u70 : TU Tryd.prog 70 (.slice 57) := ⟨by kernel_rfl⟩
instance i70 : TI Tryd.prog 70 (.slice none 0 0) 1 24 := TI.mk' (by kernel_rfl)
instance o70 : T1 Tryd.prog 70 := T1.mk' (by kernel_rfl)
instance i71 : TI Tryd.prog 71 (.nilFunc) 1 8 := TI.mk' (by kernel_rfl)
instance o71 : T1 Tryd.prog 71 := T1.mk' (by kernel_rfl)
instance u72 : TU Tryd.prog 72 (.pointer 115) := ⟨by kernel_rfl⟩
instance i72 : TI Tryd.prog 72 (.pointer none) 1 8 := TI.mk' (by kernel_rfl)
instance o72 : T1 Tryd.prog 72 := T1.mk' (by kernel_rfl)
instance i73 : TI Tryd.prog 73 (.nilFunc) 1 8 := TI.mk' (by kernel_rfl)
instance o73 : T1 Tryd.prog 73 := T1.mk' (by kernel_rfl)
instance i74 : TI Tryd.prog 74 (.nilFunc) 1 8 := TI.mk' (by kernel_rfl)
instance o74 : T1 Tryd.prog 74 := T1.mk' (by kernel_rfl)
instance i75 : TI Tryd.prog 75 (.nilFunc) 1 8 := TI.mk' (by kernel_rfl)
instance o75 : T1 Tryd.prog 75 := T1.mk' (by kernel_rfl)
instance i76 : TI Tryd.prog 76 (.nilFunc) 1 8 := TI.mk' (by kernel_rfl)
instance o76 : T1 Tryd.prog 76 := T1.mk' (by kernel_rfl)
instance i77 : TI Tryd.prog 77 (.nilFunc) 1 8 := TI.mk' (by kernel_rfl)
instance o77 : T1 Tryd.prog 77 := T1.mk' (by kernel_rfl)
instance i78 : TI Tryd.prog 78 (.nilFunc) 1 8 := TI.mk' (by kernel_rfl)
instance o78 : T1 Tryd.prog 78 := T1.mk' (by kernel_rfl)
instance i79 : TI Tryd.prog 79 (.nilFunc) 1 8 := TI.mk' (by kernel_rfl)
instance o79 : T1 Tryd.prog 79 := T1.mk' (by kernel_rfl)
instance i80 : TI Tryd.prog 80 (.nilFunc) 1 8 := TI.mk' (by kernel_rfl)
instance o80 : T1 Tryd.prog 80 := T1.mk' (by kernel_rfl)
instance i81 : TI Tryd.prog 81 (.nilFunc) 1 8 := TI.mk' (by kernel_rfl)
instance o81 : T1 Tryd.prog 81 := T1.mk' (by kernel_rfl)
instance u82 : TU Tryd.prog 82 (.int .u64) := ⟨by kernel_rfl⟩
instance i82 : TI Tryd.prog 82 (.int .u64 0) 1 8 := TI.mk' (by kernel_rfl)
instance o82 : T1 Tryd.prog 82 := T1.mk' (by kernel_rfl)
instance u83 : TU Tryd.prog 83 (.array 3 52) := ⟨by kernel_rfl⟩
instance i83 : TI Tryd.prog 83 (.agg #[.pointer none, .pointer none, .pointer none]) 3 24 := TI.mk' (by kernel_rfl)
instance a83 : TA Tryd.prog 83 3 := TA.mk' (by kernel_rfl)
instance i84 : TI Tryd.prog 84 (.tuple #[.agg #[.pointer none, .pointer none, .pointer none], .agg #[.int .i64 0, .int .i64 0]]) 1 0 := TI.mk' (by kernel_rfl)
instance i85 : TI Tryd.prog 85 (.nilFunc) 1 8 := TI.mk' (by kernel_rfl)
instance o85 : T1 Tryd.prog 85 := T1.mk' (by kernel_rfl)
instance i86 : TI Tryd.prog 86 (.nilFunc) 1 8 := TI.mk' (by kernel_rfl)
instance o86 : T1 Tryd.prog 86 := T1.mk' (by kernel_rfl)
instance i87 : TI Tryd.prog 87 (.nilFunc) 1 8 := TI.mk' (by kernel_rfl)
instance o87 : T1 Tryd.prog 87 := T1.mk' (by kernel_rfl)
instance i88 : TI Tryd.prog 88 (.nilFunc) 1 8 := TI.mk' (by kernel_rfl)
instance o88 : T1 Tryd.prog 88 := T1.mk' (by kernel_rfl)
instance i89 : TI Tryd.prog 89 (.nilFunc) 1 8 := TI.mk' (by kernel_rfl)
instance o89 : T1 Tryd.prog 89 := T1.mk' (by kernel_rfl)
instance i90 : TI Tryd.prog 90 (.nilFunc) 1 8 := TI.mk' (by kernel_rfl)
instance o90 : T1 Tryd.prog 90 := T1.mk' (by kernel_rfl)
instance i91 : TI Tryd.prog 91 (.nilFunc) 1 8 := TI.mk' (by kernel_rfl)
instance o91 : T1 Tryd.prog 91 := T1.mk' (by kernel_rfl)
instance i92 : TI Tryd.prog 92 (.tuple #[.pointer none, .nilIface]) 1 0 := TI.mk' (by kernel_rfl)
instance i93 : TI Tryd.prog 93 (.nilFunc) 1 8 := TI.mk' (by kernel_rfl)
instance o93 : T1 Tryd.prog 93 := T1.mk' (by kernel_rfl)
instance i94 : TI Tryd.prog 94 (.tuple #[.string ⟨#[]⟩, .nilIface]) 1 0 := TI.mk' (by kernel_rfl)
instance i95 : TI Tryd.prog 95 (.nilFunc) 1 8 := TI.mk' (by kernel_rfl)
instance o95 : T1 Tryd.prog 95 := T1.mk' (by kernel_rfl)
instance u96 : TU Tryd.prog 96 (.pointer 47) := ⟨by kernel_rfl⟩
instance i96 : TI Tryd.prog 96 (.pointer none) 1 8 := TI.mk' (by kernel_rfl)
instance o96 : T1 Tryd.prog 96 := T1.mk' (by kernel_rfl)
instance i97 : TI Tryd.prog 97 (.nilFunc) 1 8 := TI.mk' (by kernel_rfl)
instance o97 : T1 Tryd.prog 97 := T1.mk' (by kernel_rfl)
instance u98 : TU Tryd.prog 98 (.pointer 96) := ⟨by kernel_rfl⟩
instance i98 : TI Tryd.prog 98 (.pointer none) 1 8 := TI.mk' (by kernel_rfl)
instance o98 : T1 Tryd.prog 98 := T1.mk' (by kernel_rfl)
instance i99 : TI Tryd.prog 99 (.nilFunc) 1 8 := TI.mk' (by kernel_rfl)
instance o99 : T1 Tryd.prog 99 := T1.mk' (by kernel_rfl)
instance u100 : TU Tryd.prog 100 (.struct (structFields Tryd.prog 100)) := ⟨by kernel_rfl⟩
instance i100 : TI Tryd.prog 100 (.agg #[.slice none 0 0, .int .i64 0]) 2 32 := TI.mk' (by kernel_rfl)
instance a100 : TA Tryd.prog 100 2 := TA.mk' (by kernel_rfl)
instance f100_0 : TF Tryd.prog 100 0 0 49 1 := TF.mk' (by kernel_rfl) (by kernel_rfl)
instance f100_1 : TF Tryd.prog 100 1 1 3 1 := TF.mk' (by kernel_rfl) (by kernel_rfl)
instance b100 : TB Tryd.prog 100 [(0, 1), (1, 1)] := ⟨by kernel_rfl⟩
instance u101 : TU Tryd.prog 101 (.struct (structFields Tryd.prog 101)) := ⟨by kernel_rfl⟩
instance i101 : TI Tryd.prog 101 (.agg #[.slice none 0 0, .int .i64 0]) 2 32 := TI.mk' (by kernel_rfl)
instance a101 : TA Tryd.prog 101 2 := TA.mk' (by kernel_rfl)
instance f101_0 : TF Tryd.prog 101 0 0 49 1 := TF.mk' (by kernel_rfl) (by kernel_rfl)
instance f101_1 : TF Tryd.prog 101 1 1 3 1 := TF.mk' (by kernel_rfl) (by kernel_rfl)
instance b101 : TB Tryd.prog 101 [(0, 1), (1, 1)] := ⟨by kernel_rfl⟩
instance i102 : TI Tryd.prog 102 (.tuple #[.int .u8 0, .nilIface]) 1 0 := TI.mk' (by kernel_rfl)
instance i103 : TI Tryd.prog 103 (.nilFunc) 1 8 := TI.mk' (by kernel_rfl)
instance o103 : T1 Tryd.prog 103 := T1.mk' (by kernel_rfl)
instance u104 : TU Tryd.prog 104 (.struct (structFields Tryd.prog 104)) := ⟨by kernel_rfl⟩
instance i104 : TI Tryd.prog 104 (.agg #[.bool false, .int .i64 0, .int .i64 0, .int .i64 0, .int .i64 0, .int .i64 0, .int .i64 0, .bool false]) 8 64 := TI.mk' (by kernel_rfl)
instance a104 : TA Tryd.prog 104 8 := TA.mk' (by kernel_rfl)
instance f104_0 : TF Tryd.prog 104 0 0 4 1 := TF.mk' (by kernel_rfl) (by kernel_rfl)
instance f104_1 : TF Tryd.prog 104 1 1 3 1 := TF.mk' (by kernel_rfl) (by kernel_rfl)
instance f104_2 : TF Tryd.prog 104 2 2 3 1 := TF.mk' (by kernel_rfl) (by kernel_rfl)
instance f104_3 : TF Tryd.prog 104 3 3 3 1 := TF.mk' (by kernel_rfl) (by kernel_rfl)
instance f104_4 : TF Tryd.prog 104 4 4 3 1 := TF.mk' (by kernel_rfl) (by kernel_rfl)
instance f104_5 : TF Tryd.prog 104 5 5 3 1 := TF.mk' (by kernel_rfl) (by kernel_rfl)
instance f104_6 : TF Tryd.prog 104 6 6 3 1 := TF.mk' (by kernel_rfl) (by kernel_rfl)
instance f104_7 : TF Tryd.prog 104 7 7 4 1 := TF.mk' (by kernel_rfl) (by kernel_rfl)
instance b104 : TB Tryd.prog 104 [(0, 1), (1, 1), (2, 1), (3, 1), (4, 1), (5, 1), (6, 1), (7, 1)] := ⟨by kernel_rfl⟩
instance u105 : TU Tryd.prog 105 (.struct (structFields Tryd.prog 105)) := ⟨by kernel_rfl⟩
instance i105 : TI Tryd.prog 105 (.agg #[.bool false, .int .i64 0, .int .i64 0, .int .i64 0, .int .i64 0, .int .i64 0, .int .i64 0, .bool false]) 8 64 := TI.mk' (by kernel_rfl)
instance a105 : TA Tryd.prog 105 8 := TA.mk' (by kernel_rfl)
instance f105_0 : TF Tryd.prog 105 0 0 4 1 := TF.mk' (by kernel_rfl) (by kernel_rfl)
instance f105_1 : TF Tryd.prog 105 1 1 3 1 := TF.mk' (by kernel_rfl) (by kernel_rfl)
instance f105_2 : TF Tryd.prog 105 2 2 3 1 := TF.mk' (by kernel_rfl) (by kernel_rfl)
instance f105_3 : TF Tryd.prog 105 3 3 3 1 := TF.mk' (by kernel_rfl) (by kernel_rfl)
instance f105_4 : TF Tryd.prog 105 4 4 3 1 := TF.mk' (by kernel_rfl) (by kernel_rfl)
instance f105_5 : TF Tryd.prog 105 5 5 3 1 := TF.mk' (by kernel_rfl) (by kernel_rfl)
instance f105_6 : TF Tryd.prog 105 6 6 3 1 := TF.mk' (by kernel_rfl) (by kernel_rfl)
instance f105_7 : TF Tryd.prog 105 7 7 4 1 := TF.mk' (by kernel_rfl) (by kernel_rfl)
instance b105 : TB Tryd.prog 105 [(0, 1), (1, 1), (2, 1), (3, 1), (4, 1), (5, 1), (6, 1), (7, 1)] := ⟨by kernel_rfl⟩
instance i106 : TI Tryd.prog 106 (.tuple #[.agg #[.bool false, .int .i64 0, .int .i64 0, .int .i64 0, .int .i64 0, .int .i64 0, .int .i64 0, .bool false], .bool false]) 1 0 := TI.mk' (by kernel_rfl)
instance i107 : TI Tryd.prog 107 (.nilFunc) 1 8 := TI.mk' (by kernel_rfl)
instance o107 : T1 Tryd.prog 107 := T1.mk' (by kernel_rfl)
instance i108 : TI Tryd.prog 108 (.nilFunc) 1 8 := TI.mk' (by kernel_rfl)
instance o108 : T1 Tryd.prog 108 := T1.mk' (by kernel_rfl)
instance u109 : TU Tryd.prog 109 (.pointer 57) := ⟨by kernel_rfl⟩
instance i109 : TI Tryd.prog 109 (.pointer none) 1 8 := TI.mk' (by kernel_rfl)
instance o109 : T1 Tryd.prog 109 := T1.mk' (by kernel_rfl)
instance i110 : TI Tryd.prog 110 (.nilFunc) 1 8 := TI.mk' (by kernel_rfl)
instance o110 : T1 Tryd.prog 110 := T1.mk' (by kernel_rfl)
instance i111 : TI Tryd.prog 111 (.tuple #[.int .u8 0, .agg #[.int .i64 0, .int .i64 0]]) 1 0 := TI.mk' (by kernel_rfl)
instance i112 : TI Tryd.prog 112 (.nilFunc) 1 8 := TI.mk' (by kernel_rfl)
instance o112 : T1 Tryd.prog 112 := T1.mk' (by kernel_rfl)
instance i113 : TI Tryd.prog 113 (.nilFunc) 1 8 := TI.mk' (by kernel_rfl)
instance o113 : T1 Tryd.prog 113 := T1.mk' (by kernel_rfl)
instance u114 : TU Tryd.prog 114 (.struct (structFields Tryd.prog 114)) := ⟨by kernel_rfl⟩
instance i114 : TI Tryd.prog 114 (.agg #[.slice none 0 0]) 1 24 := TI.mk' (by kernel_rfl)
instance a114 : TA Tryd.prog 114 1 := TA.mk' (by kernel_rfl)
instance f114_0 : TF Tryd.prog 114 0 0 49 1 := TF.mk' (by kernel_rfl) (by kernel_rfl)
instance b114 : TB Tryd.prog 114 [(0, 1)] := ⟨by kernel_rfl⟩
instance u115 : TU Tryd.prog 115 (.struct (structFields Tryd.prog 115)) := ⟨by kernel_rfl⟩
instance i115 : TI Tryd.prog 115 (.agg #[.slice none 0 0]) 1 24 := TI.mk' (by kernel_rfl)
instance a115 : TA Tryd.prog 115 1 := TA.mk' (by kernel_rfl)
instance f115_0 : TF Tryd.prog 115 0 0 49 1 := TF.mk' (by kernel_rfl) (by kernel_rfl)
instance b115 : TB Tryd.prog 115 [(0, 1)] := ⟨by kernel_rfl⟩
instance i116 : TI Tryd.prog 116 (.nilFunc) 1 8 := TI.mk' (by kernel_rfl)
instance o116 : T1 Tryd.prog 116 := T1.mk' (by kernel_rfl)
instance i117 : TI Tryd.prog 117 (.nilFunc) 1 8 := TI.mk' (by kernel_rfl)
instance o117 : T1 Tryd.prog 117 := T1.mk' (by kernel_rfl)
instance i118 : TI Tryd.prog 118 (.nilFunc) 1 8 := TI.mk' (by kernel_rfl)
instance o118 : T1 Tryd.prog 118 := T1.mk' (by kernel_rfl)
instance i119 : TI Tryd.prog 119 (.nilFunc) 1 8 := TI.mk' (by kernel_rfl)
instance o119 : T1 Tryd.prog 119 := T1.mk' (by kernel_rfl)
instance u120 : TU Tryd.prog 120 (.pointer 3) := ⟨by kernel_rfl⟩
instance i120 : TI Tryd.prog 120 (.pointer none) 1 8 := TI.mk' (by kernel_rfl)
instance o120 : T1 Tryd.prog 120 := T1.mk' (by kernel_rfl)
instance i121 : TI Tryd.prog 121 (.nilFunc) 1 8 := TI.mk' (by kernel_rfl)
instance o121 : T1 Tryd.prog 121 := T1.mk' (by kernel_rfl)
instance u122 : TU Tryd.prog 122 (.pointer 39) := ⟨by kernel_rfl⟩
instance i122 : TI Tryd.prog 122 (.pointer none) 1 8 := TI.mk' (by kernel_rfl)
instance o122 : T1 Tryd.prog 122 := T1.mk' (by kernel_rfl)
instance i123 : TI Tryd.prog 123 (.nilFunc) 1 8 := TI.mk' (by kernel_rfl)
instance o123 : T1 Tryd.prog 123 := T1.mk' (by kernel_rfl)
instance i124 : TI Tryd.prog 124 (.nilFunc) 1 8 := TI.mk' (by kernel_rfl)
instance o124 : T1 Tryd.prog 124 := T1.mk' (by kernel_rfl)
instance i125 : TI Tryd.prog 125 (.tuple #[.int .i64 0, .agg #[.int .i64 0, .int .i64 0]]) 1 0 := TI.mk' (by kernel_rfl)
instance i126 : TI Tryd.prog 126 (.nilFunc) 1 8 := TI.mk' (by kernel_rfl)
instance o126 : T1 Tryd.prog 126 := T1.mk' (by kernel_rfl)
instance i127 : TI Tryd.prog 127 (.tuple #[.pointer none, .agg #[.int .i64 0, .int .i64 0]]) 1 0 := TI.mk' (by kernel_rfl)
instance i128 : TI Tryd.prog 128 (.nilFunc) 1 8 := TI.mk' (by kernel_rfl)
instance o128 : T1 Tryd.prog 128 := T1.mk' (by kernel_rfl)
instance i129 : TI Tryd.prog 129 (.nilFunc) 1 8 := TI.mk' (by kernel_rfl)
instance o129 : T1 Tryd.prog 129 := T1.mk' (by kernel_rfl)
instance i130 : TI Tryd.prog 130 (.nilFunc) 1 8 := TI.mk' (by kernel_rfl)
instance o130 : T1 Tryd.prog 130 := T1.mk' (by kernel_rfl)
instance i131 : TI Tryd.prog 131 (.nilFunc) 1 8 := TI.mk' (by kernel_rfl)
instance o131 : T1 Tryd.prog 131 := T1.mk' (by kernel_rfl)
instance i132 : TI Tryd.prog 132 (.nilFunc) 1 8 := TI.mk' (by kernel_rfl)
instance o132 : T1 Tryd.prog 132 := T1.mk' (by kernel_rfl)
instance i133 : TI Tryd.prog 133 (.nilFunc) 1 8 := TI.mk' (by kernel_rfl)
instance o133 : T1 Tryd.prog 133 := T1.mk' (by kernel_rfl)
instance i134 : TI Tryd.prog 134 (.nilFunc) 1 8 := TI.mk' (by kernel_rfl)
instance o134 : T1 Tryd.prog 134 := T1.mk' (by kernel_rfl)
instance i135 : TI Tryd.prog 135 (.nilFunc) 1 8 := TI.mk' (by kernel_rfl)
instance o135 : T1 Tryd.prog 135 := T1.mk' (by kernel_rfl)
instance i136 : TI Tryd.prog 136 (.tuple #[.int .i64 0, .nilIface]) 1 0 := TI.mk' (by kernel_rfl)
instance i137 : TI Tryd.prog 137 (.nilFunc) 1 8 := TI.mk' (by kernel_rfl)
instance o137 : T1 Tryd.prog 137 := T1.mk' (by kernel_rfl)
instance i138 : TI Tryd.prog 138 (.nilFunc) 1 8 := TI.mk' (by kernel_rfl)
instance o138 : T1 Tryd.prog 138 := T1.mk' (by kernel_rfl)
instance i139 : TI Tryd.prog 139 (.nilFunc) 1 8 := TI.mk' (by kernel_rfl)
instance o139 : T1 Tryd.prog 139 := T1.mk' (by kernel_rfl)
instance u140 : TU Tryd.prog 140 .unsafePointer := ⟨by kernel_rfl⟩
instance i140 : TI Tryd.prog 140 (.pointer none) 1 8 := TI.mk' (by kernel_rfl)
instance o140 : T1 Tryd.prog 140 := T1.mk' (by kernel_rfl)
instance u141 : TU Tryd.prog 141 (.int .u64) := ⟨by kernel_rfl⟩
instance i141 : TI Tryd.prog 141 (.int .u64 0) 1 8 := TI.mk' (by kernel_rfl)
instance o141 : T1 Tryd.prog 141 := T1.mk' (by kernel_rfl)
instance u142 : TU Tryd.prog 142 (.struct (structFields Tryd.prog 142)) := ⟨by kernel_rfl⟩
instance i142 : TI Tryd.prog 142 (.agg #[.pointer none, .pointer none, .int .u64 0]) 3 24 := TI.mk' (by kernel_rfl)
instance a142 : TA Tryd.prog 142 3 := TA.mk' (by kernel_rfl)
instance f142_0 : TF Tryd.prog 142 0 0 17 1 := TF.mk' (by kernel_rfl) (by kernel_rfl)
instance f142_1 : TF Tryd.prog 142 1 1 140 1 := TF.mk' (by kernel_rfl) (by kernel_rfl)
instance f142_2 : TF Tryd.prog 142 2 2 141 1 := TF.mk' (by kernel_rfl) (by kernel_rfl)
instance b142 : TB Tryd.prog 142 [(0, 1), (1, 1), (2, 1)] := ⟨by kernel_rfl⟩
instance u143 : TU Tryd.prog 143 (.struct (structFields Tryd.prog 143)) := ⟨by kernel_rfl⟩
instance i143 : TI Tryd.prog 143 (.agg #[.pointer none, .pointer none, .int .u64 0]) 3 24 := TI.mk' (by kernel_rfl)
instance a143 : TA Tryd.prog 143 3 := TA.mk' (by kernel_rfl)
instance f143_0 : TF Tryd.prog 143 0 0 17 1 := TF.mk' (by kernel_rfl) (by kernel_rfl)
instance f143_1 : TF Tryd.prog 143 1 1 140 1 := TF.mk' (by kernel_rfl) (by kernel_rfl)
instance f143_2 : TF Tryd.prog 143 2 2 141 1 := TF.mk' (by kernel_rfl) (by kernel_rfl)
instance b143 : TB Tryd.prog 143 [(0, 1), (1, 1), (2, 1)] := ⟨by kernel_rfl⟩
instance i144 : TI Tryd.prog 144 (.nilFunc) 1 8 := TI.mk' (by kernel_rfl)
instance o144 : T1 Tryd.prog 144 := T1.mk' (by kernel_rfl)
instance i145 : TI Tryd.prog 145 (.nilIface) 1 16 := TI.mk' (by kernel_rfl)
instance o145 : T1 Tryd.prog 145 := T1.mk' (by kernel_rfl)
instance i146 : TI Tryd.prog 146 (.nilIface) 1 16 := TI.mk' (by kernel_rfl)
instance o146 : T1 Tryd.prog 146 := T1.mk' (by kernel_rfl)
instance i147 : TI Tryd.prog 147 (.nilFunc) 1 8 := TI.mk' (by kernel_rfl)
instance o147 : T1 Tryd.prog 147 := T1.mk' (by kernel_rfl)
instance u148 : TU Tryd.prog 148 (.int .u8) := ⟨by kernel_rfl⟩
instance i148 : TI Tryd.prog 148 (.int .u8 0) 1 1 := TI.mk' (by kernel_rfl)
instance o148 : T1 Tryd.prog 148 := T1.mk' (by kernel_rfl)
instance i149 : TI Tryd.prog 149 (.nilFunc) 1 8 := TI.mk' (by kernel_rfl)
instance o149 : T1 Tryd.prog 149 := T1.mk' (by kernel_rfl)
instance i150 : TI Tryd.prog 150 (.nilFunc) 1 8 := TI.mk' (by kernel_rfl)
instance o150 : T1 Tryd.prog 150 := T1.mk' (by kernel_rfl)
instance i151 : TI Tryd.prog 151 (.nilFunc) 1 8 := TI.mk' (by kernel_rfl)
instance o151 : T1 Tryd.prog 151 := T1.mk' (by kernel_rfl)
instance i152 : TI Tryd.prog 152 (.nilFunc) 1 8 := TI.mk' (by kernel_rfl)
instance o152 : T1 Tryd.prog 152 := T1.mk' (by kernel_rfl)
instance i153 : TI Tryd.prog 153 (.nilFunc) 1 8 := TI.mk' (by kernel_rfl)
instance o153 : T1 Tryd.prog 153 := T1.mk' (by kernel_rfl)
instance i154 : TI Tryd.prog 154 (.tuple #[.int .i64 0, .nilIface]) 1 0 := TI.mk' (by kernel_rfl)
instance i155 : TI Tryd.prog 155 (.nilFunc) 1 8 := TI.mk' (by kernel_rfl)
instance o155 : T1 Tryd.prog 155 := T1.mk' (by kernel_rfl)
instance i156 : TI Tryd.prog 156 (.tuple #[.string ⟨#[]⟩, .agg #[.int .i64 0, .int .i64 0]]) 1 0 := TI.mk' (by kernel_rfl)
instance i157 : TI Tryd.prog 157 (.nilFunc) 1 8 := TI.mk' (by kernel_rfl)
instance o157 : T1 Tryd.prog 157 := T1.mk' (by kernel_rfl)
instance i158 : TI Tryd.prog 158 (.tuple #[.int .i64 0, .agg #[.int .i64 0, .int .i64 0]]) 1 0 := TI.mk' (by kernel_rfl)
instance i159 : TI Tryd.prog 159 (.nilFunc) 1 8 := TI.mk' (by kernel_rfl)
instance o159 : T1 Tryd.prog 159 := T1.mk' (by kernel_rfl)
instance i160 : TI Tryd.prog 160 (.tuple #[.slice none 0 0, .agg #[.int .i64 0, .int .i64 0]]) 1 0 := TI.mk' (by kernel_rfl)
instance i161 : TI Tryd.prog 161 (.nilFunc) 1 8 := TI.mk' (by kernel_rfl)
instance o161 : T1 Tryd.prog 161 := T1.mk' (by kernel_rfl)
instance i162 : TI Tryd.prog 162 (.nilFunc) 1 8 := TI.mk' (by kernel_rfl)
instance o162 : T1 Tryd.prog 162 := T1.mk' (by kernel_rfl)
instance i163 : TI Tryd.prog 163 (.nilFunc) 1 8 := TI.mk' (by kernel_rfl)
instance o163 : T1 Tryd.prog 163 := T1.mk' (by kernel_rfl)
instance i164 : TI Tryd.prog 164 (.nilFunc) 1 8 := TI.mk' (by kernel_rfl)
instance o164 : T1 Tryd.prog 164 := T1.mk' (by kernel_rfl)
instance u165 : TU Tryd.prog 165 (.int .u64) := ⟨by kernel_rfl⟩
instance i165 : TI Tryd.prog 165 (.int .u64 0) 1 8 := TI.mk' (by kernel_rfl)
instance o165 : T1 Tryd.prog 165 := T1.mk' (by kernel_rfl)
instance i166 : TI Tryd.prog 166 (.nilFunc) 1 8 := TI.mk' (by kernel_rfl)
instance o166 : T1 Tryd.prog 166 := T1.mk' (by kernel_rfl)
instance i167 : TI Tryd.prog 167 (.tuple #[.pointer none, .bool false]) 1 0 := TI.mk' (by kernel_rfl)
instance i168 : TI Tryd.prog 168 (.tuple #[.int .u64 0, .agg #[.int .i64 0, .int .i64 0]]) 1 0 := TI.mk' (by kernel_rfl)
instance i169 : TI Tryd.prog 169 (.nilFunc) 1 8 := TI.mk' (by kernel_rfl)
instance o169 : T1 Tryd.prog 169 := T1.mk' (by kernel_rfl)
instance i170 : TI Tryd.prog 170 (.nilFunc) 1 8 := TI.mk' (by kernel_rfl)
instance o170 : T1 Tryd.prog 170 := T1.mk' (by kernel_rfl)
instance i171 : TI Tryd.prog 171 (.nilFunc) 1 8 := TI.mk' (by kernel_rfl)
instance o171 : T1 Tryd.prog 171 := T1.mk' (by kernel_rfl)
instance u172 : TU Tryd.prog 172 (.slice 76) := ⟨by kernel_rfl⟩
instance i172 : TI Tryd.prog 172 (.slice none 0 0) 1 24 := TI.mk' (by kernel_rfl)
instance o172 : T1 Tryd.prog 172 := T1.mk' (by kernel_rfl)
instance i173 : TI Tryd.prog 173 (.tuple #[.int .u64 0, .nilIface]) 1 0 := TI.mk' (by kernel_rfl)
instance i174 : TI Tryd.prog 174 (.nilFunc) 1 8 := TI.mk' (by kernel_rfl)
instance o174 : T1 Tryd.prog 174 := T1.mk' (by kernel_rfl)
instance u175 : TU Tryd.prog 175 (.struct (structFields Tryd.prog 175)) := ⟨by kernel_rfl⟩
instance i175 : TI Tryd.prog 175 (.agg #[.pointer none]) 1 8 := TI.mk' (by kernel_rfl)
instance a175 : TA Tryd.prog 175 1 := TA.mk' (by kernel_rfl)
instance f175_0 : TF Tryd.prog 175 0 0 17 1 := TF.mk' (by kernel_rfl) (by kernel_rfl)
instance b175 : TB Tryd.prog 175 [(0, 1)] := ⟨by kernel_rfl⟩
instance u176 : TU Tryd.prog 176 (.struct (structFields Tryd.prog 176)) := ⟨by kernel_rfl⟩
instance i176 : TI Tryd.prog 176 (.agg #[.pointer none]) 1 8 := TI.mk' (by kernel_rfl)
instance a176 : TA Tryd.prog 176 1 := TA.mk' (by kernel_rfl)
instance f176_0 : TF Tryd.prog 176 0 0 17 1 := TF.mk' (by kernel_rfl) (by kernel_rfl)
instance b176 : TB Tryd.prog 176 [(0, 1)] := ⟨by kernel_rfl⟩
instance u177 : TU Tryd.prog 177 (.pointer 215) := ⟨by kernel_rfl⟩
instance i177 : TI Tryd.prog 177 (.pointer none) 1 8 := TI.mk' (by kernel_rfl)
instance o177 : T1 Tryd.prog 177 := T1.mk' (by kernel_rfl)
instance i178 : TI Tryd.prog 178 (.nilFunc) 1 8 := TI.mk' (by kernel_rfl)
instance o178 : T1 Tryd.prog 178 := T1.mk' (by kernel_rfl)
instance i179 : TI Tryd.prog 179 (.nilFunc) 1 8 := TI.mk' (by kernel_rfl)
instance o179 : T1 Tryd.prog 179 := T1.mk' (by kernel_rfl)
instance i180 : TI Tryd.prog 180 (.nilIface) 1 16 := TI.mk' (by kernel_rfl)
instance o180 : T1 Tryd.prog 180 := T1.mk' (by kernel_rfl)
instance i181 : TI Tryd.prog 181 (.tuple #[.nilIface, .bool false]) 1 0 := TI.mk' (by kernel_rfl)
instance i182 : TI Tryd.prog 182 (.nilFunc) 1 8 := TI.mk' (by kernel_rfl)
instance o182 : T1 Tryd.prog 182 := T1.mk' (by kernel_rfl)
instance i183 : TI Tryd.prog 183 (.nilIface) 1 16 := TI.mk' (by kernel_rfl)
instance o183 : T1 Tryd.prog 183 := T1.mk' (by kernel_rfl)
instance i184 : TI Tryd.prog 184 (.nilIface) 1 16 := TI.mk' (by kernel_rfl)
instance o184 : T1 Tryd.prog 184 := T1.mk' (by kernel_rfl)
instance u185 : TU Tryd.prog 185 (.slice 39) := ⟨by kernel_rfl⟩
instance i185 : TI Tryd.prog 185 (.slice none 0 0) 1 24 := TI.mk' (by kernel_rfl)
instance o185 : T1 Tryd.prog 185 := T1.mk' (by kernel_rfl)
instance i186 : TI Tryd.prog 186 (.nilFunc) 1 8 := TI.mk' (by kernel_rfl)
instance o186 : T1 Tryd.prog 186 := T1.mk' (by kernel_rfl)
instance i187 : TI Tryd.prog 187 (.nilIface) 1 16 := TI.mk' (by kernel_rfl)
instance o187 : T1 Tryd.prog 187 := T1.mk' (by kernel_rfl)
instance i188 : TI Tryd.prog 188 (.tuple #[.nilIface, .bool false]) 1 0 := TI.mk' (by kernel_rfl)
instance i189 : TI Tryd.prog 189 (.nilFunc) 1 8 := TI.mk' (by kernel_rfl)
instance o189 : T1 Tryd.prog 189 := T1.mk' (by kernel_rfl)
instance i190 : TI Tryd.prog 190 (.nilFunc) 1 8 := TI.mk' (by kernel_rfl)
instance o190 : T1 Tryd.prog 190 := T1.mk' (by kernel_rfl)
instance u191 : TU Tryd.prog 191 (.array 10 5) := ⟨by kernel_rfl⟩
instance i191 : TI Tryd.prog 191 (.agg #[.int .u8 0, .int .u8 0, .int .u8 0, .int .u8 0, .int .u8 0, .int .u8 0, .int .u8 0, .int .u8 0, .int .u8 0, .int .u8 0]) 10 10 := TI.mk' (by kernel_rfl)
instance a191 : TA Tryd.prog 191 10 := TA.mk' (by kernel_rfl)
instance u192 : TU Tryd.prog 192 (.struct (structFields Tryd.prog 192)) := ⟨by kernel_rfl⟩
instance i192 : TI Tryd.prog 192 (.agg #[.int .u8 0, .int .u8 0, .int .u8 0, .int .u8 0, .int .u8 0, .int .u8 0, .int .u8 0, .int .u8 0, .int .u8 0, .int .u8 0, .int .i64 0]) 11 24 := TI.mk' (by kernel_rfl)
instance a192 : TA Tryd.prog 192 11 := TA.mk' (by kernel_rfl)
instance f192_0 : TF Tryd.prog 192 0 0 191 10 := TF.mk' (by kernel_rfl) (by kernel_rfl)
instance f192_1 : TF Tryd.prog 192 1 10 3 1 := TF.mk' (by kernel_rfl) (by kernel_rfl)
instance b192 : TB Tryd.prog 192 [(0, 10), (10, 1)] := ⟨by kernel_rfl⟩
instance u193 : TU Tryd.prog 193 (.struct (structFields Tryd.prog 193)) := ⟨by kernel_rfl⟩
instance i193 : TI Tryd.prog 193 (.agg #[.int .u8 0, .int .u8 0, .int .u8 0, .int .u8 0, .int .u8 0, .int .u8 0, .int .u8 0, .int .u8 0, .int .u8 0, .int .u8 0, .int .i64 0]) 11 24 := TI.mk' (by kernel_rfl)
instance a193 : TA Tryd.prog 193 11 := TA.mk' (by kernel_rfl)
instance f193_0 : TF Tryd.prog 193 0 0 191 10 := TF.mk' (by kernel_rfl) (by kernel_rfl)
instance f193_1 : TF Tryd.prog 193 1 10 3 1 := TF.mk' (by kernel_rfl) (by kernel_rfl)
instance b193 : TB Tryd.prog 193 [(0, 10), (10, 1)] := ⟨by kernel_rfl⟩
instance i194 : TI Tryd.prog 194 (.nilFunc) 1 8 := TI.mk' (by kernel_rfl)
instance o194 : T1 Tryd.prog 194 := T1.mk' (by kernel_rfl)
instance i195 : TI Tryd.prog 195 (.nilFunc) 1 8 := TI.mk' (by kernel_rfl)
instance o195 : T1 Tryd.prog 195 := T1.mk' (by kernel_rfl)
instance u196 : TU Tryd.prog 196 (.pointer 193) := ⟨by kernel_rfl⟩
instance i196 : TI Tryd.prog 196 (.pointer none) 1 8 := TI.mk' (by kernel_rfl)
instance o196 : T1 Tryd.prog 196 := T1.mk' (by kernel_rfl)
instance i197 : TI Tryd.prog 197 (.nilFunc) 1 8 := TI.mk' (by kernel_rfl)
instance o197 : T1 Tryd.prog 197 := T1.mk' (by kernel_rfl)
instance u198 : TU Tryd.prog 198 (.slice 33) := ⟨by kernel_rfl⟩
instance i198 : TI Tryd.prog 198 (.slice none 0 0) 1 24 := TI.mk' (by kernel_rfl)
instance o198 : T1 Tryd.prog 198 := T1.mk' (by kernel_rfl)
instance u199 : TU Tryd.prog 199 (.struct (structFields Tryd.prog 199)) := ⟨by kernel_rfl⟩
instance i199 : TI Tryd.prog 199 (.agg #[.pointer none, .pointer none, .pointer none, .string ⟨#[]⟩]) 4 40 := TI.mk' (by kernel_rfl)
instance a199 : TA Tryd.prog 199 4 := TA.mk' (by kernel_rfl)
instance f199_0 : TF Tryd.prog 199 0 0 17 1 := TF.mk' (by kernel_rfl) (by kernel_rfl)
instance f199_1 : TF Tryd.prog 199 1 1 17 1 := TF.mk' (by kernel_rfl) (by kernel_rfl)
instance f199_2 : TF Tryd.prog 199 2 2 17 1 := TF.mk' (by kernel_rfl) (by kernel_rfl)
instance f199_3 : TF Tryd.prog 199 3 3 9 1 := TF.mk' (by kernel_rfl) (by kernel_rfl)
instance b199 : TB Tryd.prog 199 [(0, 1), (1, 1), (2, 1), (3, 1)] := ⟨by kernel_rfl⟩
instance u200 : TU Tryd.prog 200 (.struct (structFields Tryd.prog 200)) := ⟨by kernel_rfl⟩
instance i200 : TI Tryd.prog 200 (.agg #[.pointer none, .pointer none, .pointer none, .string ⟨#[]⟩]) 4 40 := TI.mk' (by kernel_rfl)
instance a200 : TA Tryd.prog 200 4 := TA.mk' (by kernel_rfl)
instance f200_0 : TF Tryd.prog 200 0 0 17 1 := TF.mk' (by kernel_rfl) (by kernel_rfl)
instance f200_1 : TF Tryd.prog 200 1 1 17 1 := TF.mk' (by kernel_rfl) (by kernel_rfl)
instance f200_2 : TF Tryd.prog 200 2 2 17 1 := TF.mk' (by kernel_rfl) (by kernel_rfl)
instance f200_3 : TF Tryd.prog 200 3 3 9 1 := TF.mk' (by kernel_rfl) (by kernel_rfl)
instance b200 : TB Tryd.prog 200 [(0, 1), (1, 1), (2, 1), (3, 1)] := ⟨by kernel_rfl⟩
instance u201 : TU Tryd.prog 201 (.array 0 16) := ⟨by kernel_rfl⟩
instance i201 : TI Tryd.prog 201 (.agg #[]) 0 0 := TI.mk' (by kernel_rfl)
instance a201 : TA Tryd.prog 201 0 := TA.mk' (by kernel_rfl)
instance u202 : TU Tryd.prog 202 (.struct (structFields Tryd.prog 202)) := ⟨by kernel_rfl⟩
instance i202 : TI Tryd.prog 202 (.agg #[]) 0 0 := TI.mk' (by kernel_rfl)
instance a202 : TA Tryd.prog 202 0 := TA.mk' (by kernel_rfl)
instance b202 : TB Tryd.prog 202 [(0, 0)] := ⟨by kernel_rfl⟩
instance u203 : TU Tryd.prog 203 (.struct (structFields Tryd.prog 203)) := ⟨by kernel_rfl⟩
instance i203 : TI Tryd.prog 203 (.agg #[]) 0 0 := TI.mk' (by kernel_rfl)
instance a203 : TA Tryd.prog 203 0 := TA.mk' (by kernel_rfl)
instance b203 : TB Tryd.prog 203 [(0, 0)] := ⟨by kernel_rfl⟩
instance i204 : TI Tryd.prog 204 (.nilFunc) 1 8 := TI.mk' (by kernel_rfl)
instance o204 : T1 Tryd.prog 204 := T1.mk' (by kernel_rfl)
instance u205 : TU Tryd.prog 205 (.int .u8) := ⟨by kernel_rfl⟩
instance i205 : TI Tryd.prog 205 (.int .u8 0) 1 1 := TI.mk' (by kernel_rfl)
instance o205 : T1 Tryd.prog 205 := T1.mk' (by kernel_rfl)
instance i206 : TI Tryd.prog 206 (.nilFunc) 1 8 := TI.mk' (by kernel_rfl)
instance o206 : T1 Tryd.prog 206 := T1.mk' (by kernel_rfl)
instance u207 : TU Tryd.prog 207 (.pointer 5) := ⟨by kernel_rfl⟩
instance i207 : TI Tryd.prog 207 (.pointer none) 1 8 := TI.mk' (by kernel_rfl)
instance o207 : T1 Tryd.prog 207 := T1.mk' (by kernel_rfl)
instance u208 : TU Tryd.prog 208 (.int .i32) := ⟨by kernel_rfl⟩
instance i208 : TI Tryd.prog 208 (.int .i32 0) 1 4 := TI.mk' (by kernel_rfl)
instance o208 : T1 Tryd.prog 208 := T1.mk' (by kernel_rfl)
instance u209 : TU Tryd.prog 209 (.int .i32) := ⟨by kernel_rfl⟩
instance i209 : TI Tryd.prog 209 (.int .i32 0) 1 4 := TI.mk' (by kernel_rfl)
instance o209 : T1 Tryd.prog 209 := T1.mk' (by kernel_rfl)
instance u210 : TU Tryd.prog 210 (.struct (structFields Tryd.prog 210)) := ⟨by kernel_rfl⟩
instance i210 : TI Tryd.prog 210 (.agg #[.int .u64 0, .int .u64 0, .int .u32 0, .int .u8 0, .int .u8 0, .int .u8 0, .int .u8 0, .nilFunc, .pointer none, .int .i32 0, .int .i32 0]) 11 48 := TI.mk' (by kernel_rfl)
instance a210 : TA Tryd.prog 210 11 := TA.mk' (by kernel_rfl)
instance f210_0 : TF Tryd.prog 210 0 0 12 1 := TF.mk' (by kernel_rfl) (by kernel_rfl)
instance f210_1 : TF Tryd.prog 210 1 1 12 1 := TF.mk' (by kernel_rfl) (by kernel_rfl)
instance f210_2 : TF Tryd.prog 210 2 2 30 1 := TF.mk' (by kernel_rfl) (by kernel_rfl)
instance f210_3 : TF Tryd.prog 210 3 3 205 1 := TF.mk' (by kernel_rfl) (by kernel_rfl)
instance f210_4 : TF Tryd.prog 210 4 4 5 1 := TF.mk' (by kernel_rfl) (by kernel_rfl)
instance f210_5 : TF Tryd.prog 210 5 5 5 1 := TF.mk' (by kernel_rfl) (by kernel_rfl)
instance f210_6 : TF Tryd.prog 210 6 6 148 1 := TF.mk' (by kernel_rfl) (by kernel_rfl)
instance f210_7 : TF Tryd.prog 210 7 7 206 1 := TF.mk' (by kernel_rfl) (by kernel_rfl)
instance f210_8 : TF Tryd.prog 210 8 8 207 1 := TF.mk' (by kernel_rfl) (by kernel_rfl)
instance f210_9 : TF Tryd.prog 210 9 9 208 1 := TF.mk' (by kernel_rfl) (by kernel_rfl)
instance f210_10 : TF Tryd.prog 210 10 10 209 1 := TF.mk' (by kernel_rfl) (by kernel_rfl)
instance u211 : TU Tryd.prog 211 (.struct (structFields Tryd.prog 211)) := ⟨by kernel_rfl⟩
instance i211 : TI Tryd.prog 211 (.agg #[.int .u64 0, .int .u64 0, .int .u32 0, .int .u8 0, .int .u8 0, .int .u8 0, .int .u8 0, .nilFunc, .pointer none, .int .i32 0, .int .i32 0]) 11 48 := TI.mk' (by kernel_rfl)
instance a211 : TA Tryd.prog 211 11 := TA.mk' (by kernel_rfl)
instance f211_0 : TF Tryd.prog 211 0 0 12 1 := TF.mk' (by kernel_rfl) (by kernel_rfl)
instance f211_1 : TF Tryd.prog 211 1 1 12 1 := TF.mk' (by kernel_rfl) (by kernel_rfl)
instance f211_2 : TF Tryd.prog 211 2 2 30 1 := TF.mk' (by kernel_rfl) (by kernel_rfl)
instance f211_3 : TF Tryd.prog 211 3 3 205 1 := TF.mk' (by kernel_rfl) (by kernel_rfl)
instance f211_4 : TF Tryd.prog 211 4 4 5 1 := TF.mk' (by kernel_rfl) (by kernel_rfl)
instance f211_5 : TF Tryd.prog 211 5 5 5 1 := TF.mk' (by kernel_rfl) (by kernel_rfl)
instance f211_6 : TF Tryd.prog 211 6 6 148 1 := TF.mk' (by kernel_rfl) (by kernel_rfl)
instance f211_7 : TF Tryd.prog 211 7 7 206 1 := TF.mk' (by kernel_rfl) (by kernel_rfl)
instance f211_8 : TF Tryd.prog 211 8 8 207 1 := TF.mk' (by kernel_rfl) (by kernel_rfl)
instance f211_9 : TF Tryd.prog 211 9 9 208 1 := TF.mk' (by kernel_rfl) (by kernel_rfl)
instance f211_10 : TF Tryd.prog 211 10 10 209 1 := TF.mk' (by kernel_rfl) (by kernel_rfl)
instance i212 : TI Tryd.prog 212 (.nilFunc) 1 8 := TI.mk' (by kernel_rfl)
instance o212 : T1 Tryd.prog 212 := T1.mk' (by kernel_rfl)
instance i213 : TI Tryd.prog 213 (.nilFunc) 1 8 := TI.mk' (by kernel_rfl)
instance o213 : T1 Tryd.prog 213 := T1.mk' (by kernel_rfl)
instance u214 : TU Tryd.prog 214 (.struct (structFields Tryd.prog 214)) := ⟨by kernel_rfl⟩
instance i214 : TI Tryd.prog 214 (.agg #[.string ⟨#[]⟩, .int .u8 0]) 2 24 := TI.mk' (by kernel_rfl)
instance a214 : TA Tryd.prog 214 2 := TA.mk' (by kernel_rfl)
instance f214_0 : TF Tryd.prog 214 0 0 9 1 := TF.mk' (by kernel_rfl) (by kernel_rfl)
instance f214_1 : TF Tryd.prog 214 1 1 148 1 := TF.mk' (by kernel_rfl) (by kernel_rfl)
instance b214 : TB Tryd.prog 214 [(0, 1), (1, 1)] := ⟨by kernel_rfl⟩
instance u215 : TU Tryd.prog 215 (.struct (structFields Tryd.prog 215)) := ⟨by kernel_rfl⟩
instance i215 : TI Tryd.prog 215 (.agg #[.string ⟨#[]⟩, .int .u8 0]) 2 24 := TI.mk' (by kernel_rfl)
instance a215 : TA Tryd.prog 215 2 := TA.mk' (by kernel_rfl)
instance f215_0 : TF Tryd.prog 215 0 0 9 1 := TF.mk' (by kernel_rfl) (by kernel_rfl)
instance f215_1 : TF Tryd.prog 215 1 1 148 1 := TF.mk' (by kernel_rfl) (by kernel_rfl)
instance b215 : TB Tryd.prog 215 [(0, 1), (1, 1)] := ⟨by kernel_rfl⟩
instance u216 : TU Tryd.prog 216 (.pointer 219) := ⟨by kernel_rfl⟩
instance i216 : TI Tryd.prog 216 (.pointer none) 1 8 := TI.mk' (by kernel_rfl)
instance o216 : T1 Tryd.prog 216 := T1.mk' (by kernel_rfl)
instance i217 : TI Tryd.prog 217 (.nilFunc) 1 8 := TI.mk' (by kernel_rfl)
instance o217 : T1 Tryd.prog 217 := T1.mk' (by kernel_rfl)
instance u218 : TU Tryd.prog 218 (.struct (structFields Tryd.prog 218)) := ⟨by kernel_rfl⟩
instance i218 : TI Tryd.prog 218 (.agg #[.int .i32 0, .int .u16 0, .int .u16 0, .int .u32 0, .int .u32 0]) 5 16 := TI.mk' (by kernel_rfl)
instance a218 : TA Tryd.prog 218 5 := TA.mk' (by kernel_rfl)
instance f218_0 : TF Tryd.prog 218 0 0 208 1 := TF.mk' (by kernel_rfl) (by kernel_rfl)
instance f218_1 : TF Tryd.prog 218 1 1 23 1 := TF.mk' (by kernel_rfl) (by kernel_rfl)
instance f218_2 : TF Tryd.prog 218 2 2 23 1 := TF.mk' (by kernel_rfl) (by kernel_rfl)
instance f218_3 : TF Tryd.prog 218 3 3 30 1 := TF.mk' (by kernel_rfl) (by kernel_rfl)
instance f218_4 : TF Tryd.prog 218 4 4 30 1 := TF.mk' (by kernel_rfl) (by kernel_rfl)
instance b218 : TB Tryd.prog 218 [(0, 1), (1, 1), (2, 1), (3, 1), (4, 1)] := ⟨by kernel_rfl⟩
instance u219 : TU Tryd.prog 219 (.struct (structFields Tryd.prog 219)) := ⟨by kernel_rfl⟩
instance i219 : TI Tryd.prog 219 (.agg #[.int .i32 0, .int .u16 0, .int .u16 0, .int .u32 0, .int .u32 0]) 5 16 := TI.mk' (by kernel_rfl)
instance a219 : TA Tryd.prog 219 5 := TA.mk' (by kernel_rfl)
instance f219_0 : TF Tryd.prog 219 0 0 208 1 := TF.mk' (by kernel_rfl) (by kernel_rfl)
instance f219_1 : TF Tryd.prog 219 1 1 23 1 := TF.mk' (by kernel_rfl) (by kernel_rfl)
instance f219_2 : TF Tryd.prog 219 2 2 23 1 := TF.mk' (by kernel_rfl) (by kernel_rfl)
instance f219_3 : TF Tryd.prog 219 3 3 30 1 := TF.mk' (by kernel_rfl) (by kernel_rfl)
instance f219_4 : TF Tryd.prog 219 4 4 30 1 := TF.mk' (by kernel_rfl) (by kernel_rfl)
instance b219 : TB Tryd.prog 219 [(0, 1), (1, 1), (2, 1), (3, 1), (4, 1)] := ⟨by kernel_rfl⟩
instance u220 : TU Tryd.prog 220 (.slice 223) := ⟨by kernel_rfl⟩
instance i220 : TI Tryd.prog 220 (.slice none 0 0) 1 24 := TI.mk' (by kernel_rfl)
instance o220 : T1 Tryd.prog 220 := T1.mk' (by kernel_rfl)
instance u221 : TU Tryd.prog 221 (.int .i32) := ⟨by kernel_rfl⟩
instance i221 : TI Tryd.prog 221 (.int .i32 0) 1 4 := TI.mk' (by kernel_rfl)
instance o221 : T1 Tryd.prog 221 := T1.mk' (by kernel_rfl)
instance u222 : TU Tryd.prog 222 (.struct (structFields Tryd.prog 222)) := ⟨by kernel_rfl⟩
instance i222 : TI Tryd.prog 222 (.agg #[.int .i32 0, .int .i32 0, .int .i32 0, .int .i32 0]) 4 16 := TI.mk' (by kernel_rfl)
instance a222 : TA Tryd.prog 222 4 := TA.mk' (by kernel_rfl)
instance f222_0 : TF Tryd.prog 222 0 0 208 1 := TF.mk' (by kernel_rfl) (by kernel_rfl)
instance f222_1 : TF Tryd.prog 222 1 1 209 1 := TF.mk' (by kernel_rfl) (by kernel_rfl)
instance f222_2 : TF Tryd.prog 222 2 2 221 1 := TF.mk' (by kernel_rfl) (by kernel_rfl)
instance f222_3 : TF Tryd.prog 222 3 3 221 1 := TF.mk' (by kernel_rfl) (by kernel_rfl)
instance b222 : TB Tryd.prog 222 [(0, 1), (1, 1), (2, 1), (3, 1)] := ⟨by kernel_rfl⟩
instance u223 : TU Tryd.prog 223 (.struct (structFields Tryd.prog 223)) := ⟨by kernel_rfl⟩
instance i223 : TI Tryd.prog 223 (.agg #[.int .i32 0, .int .i32 0, .int .i32 0, .int .i32 0]) 4 16 := TI.mk' (by kernel_rfl)
instance a223 : TA Tryd.prog 223 4 := TA.mk' (by kernel_rfl)
instance f223_0 : TF Tryd.prog 223 0 0 208 1 := TF.mk' (by kernel_rfl) (by kernel_rfl)
instance f223_1 : TF Tryd.prog 223 1 1 209 1 := TF.mk' (by kernel_rfl) (by kernel_rfl)
instance f223_2 : TF Tryd.prog 223 2 2 221 1 := TF.mk' (by kernel_rfl) (by kernel_rfl)
instance f223_3 : TF Tryd.prog 223 3 3 221 1 := TF.mk' (by kernel_rfl) (by kernel_rfl)
instance b223 : TB Tryd.prog 223 [(0, 1), (1, 1), (2, 1), (3, 1)] := ⟨by kernel_rfl⟩
instance c2 : CF Tryd.prog 2 := CF.mk' Tryd.func2 (by kernel_rfl) (by kernel_rfl)
instance c3 : CF Tryd.prog 3 := CF.mk' Tryd.func3 (by kernel_rfl) (by kernel_rfl)
instance c4 : CF Tryd.prog 4 := CF.mk' Tryd.func4 (by kernel_rfl) (by kernel_rfl)
instance c5 : CF Tryd.prog 5 := CF.mk' Tryd.func5 (by kernel_rfl) (by kernel_rfl)
instance c6 : CF Tryd.prog 6 := CF.mk' Tryd.func6 (by kernel_rfl) (by kernel_rfl)
instance c7 : CF Tryd.prog 7 := CF.mk' Tryd.func7 (by kernel_rfl) (by kernel_rfl)
instance c8 : CF Tryd.prog 8 := CF.mk' Tryd.func8 (by kernel_rfl) (by kernel_rfl)
instance c9 : CF Tryd.prog 9 := CF.mk' Tryd.func9 (by kernel_rfl) (by kernel_rfl)
instance c10 : CF Tryd.prog 10 := CF.mk' Tryd.func10 (by kernel_rfl) (by kernel_rfl)
instance c11 : CF Tryd.prog 11 := CF.mk' Tryd.func11 (by kernel_rfl) (by kernel_rfl)
instance c12 : CF Tryd.prog 12 := CF.mk' Tryd.func12 (by kernel_rfl) (by kernel_rfl)
instance c13 : CF Tryd.prog 13 := CF.mk' Tryd.func13 (by kernel_rfl) (by kernel_rfl)
instance c14 : CF Tryd.prog 14 := CF.mk' Tryd.func14 (by kernel_rfl) (by kernel_rfl)
instance c15 : CF Tryd.prog 15 := CF.mk' Tryd.func15 (by kernel_rfl) (by kernel_rfl)
instance c16 : CF Tryd.prog 16 := CF.mk' Tryd.func16 (by kernel_rfl) (by kernel_rfl)
instance c17 : CF Tryd.prog 17 := CF.mk' Tryd.func17 (by kernel_rfl) (by kernel_rfl)
instance c18 : CF Tryd.prog 18 := CF.mk' Tryd.func18 (by kernel_rfl) (by kernel_rfl)
instance c19 : CF Tryd.prog 19 := CF.mk' Tryd.func19 (by kernel_rfl) (by kernel_rfl)
instance c20 : CF Tryd.prog 20 := CF.mk' Tryd.func20 (by kernel_rfl) (by kernel_rfl)
instance c21 : CF Tryd.prog 21 := CF.mk' Tryd.func21 (by kernel_rfl) (by kernel_rfl)
instance c22 : CF Tryd.prog 22 := CF.mk' Tryd.func22 (by kernel_rfl) (by kernel_rfl)
instance c23 : CF Tryd.prog 23 := CF.mk' Tryd.func23 (by kernel_rfl) (by kernel_rfl)
instance c24 : CF Tryd.prog 24 := CF.mk' Tryd.func24 (by kernel_rfl) (by kernel_rfl)
instance c25 : CF Tryd.prog 25 := CF.mk' Tryd.func25 (by kernel_rfl) (by kernel_rfl)
instance c26 : CF Tryd.prog 26 := CF.mk' Tryd.func26 (by kernel_rfl) (by kernel_rfl)
instance c27 : CF Tryd.prog 27 := CF.mk' Tryd.func27 (by kernel_rfl) (by kernel_rfl)
instance c28 : CF Tryd.prog 28 := CF.mk' Tryd.func28 (by kernel_rfl) (by kernel_rfl)
instance c29 : CF Tryd.prog 29 := CF.mk' Tryd.func29 (by kernel_rfl) (by kernel_rfl)
instance c30 : CF Tryd.prog 30 := CF.mk' Tryd.func30 (by kernel_rfl) (by kernel_rfl)
instance c31 : CF Tryd.prog 31 := CF.mk' Tryd.func31 (by kernel_rfl) (by kernel_rfl)
instance c32 : CF Tryd.prog 32 := CF.mk' Tryd.func32 (by kernel_rfl) (by kernel_rfl)
instance c33 : CF Tryd.prog 33 := CF.mk' Tryd.func33 (by kernel_rfl) (by kernel_rfl)
instance c34 : CF Tryd.prog 34 := CF.mk' Tryd.func34 (by kernel_rfl) (by kernel_rfl)
instance c35 : CF Tryd.prog 35 := CF.mk' Tryd.func35 (by kernel_rfl) (by kernel_rfl)
instance c36 : CF Tryd.prog 36 := CF.mk' Tryd.func36 (by kernel_rfl) (by kernel_rfl)
instance c37 : CF Tryd.prog 37 := CF.mk' Tryd.func37 (by kernel_rfl) (by kernel_rfl)
instance c38 : CF Tryd.prog 38 := CF.mk' Tryd.func38 (by kernel_rfl) (by kernel_rfl)
instance c39 : CF Tryd.prog 39 := CF.mk' Tryd.func39 (by kernel_rfl) (by kernel_rfl)
instance c40 : CF Tryd.prog 40 := CF.mk' Tryd.func40 (by kernel_rfl) (by kernel_rfl)
instance c41 : CF Tryd.prog 41 := CF.mk' Tryd.func41 (by kernel_rfl) (by kernel_rfl)
instance c42 : CF Tryd.prog 42 := CF.mk' Tryd.func42 (by kernel_rfl) (by kernel_rfl)
instance c43 : CF Tryd.prog 43 := CF.mk' Tryd.func43 (by kernel_rfl) (by kernel_rfl)
instance c44 : CF Tryd.prog 44 := CF.mk' Tryd.func44 (by kernel_rfl) (by kernel_rfl)
instance c45 : CF Tryd.prog 45 := CF.mk' Tryd.func45 (by kernel_rfl) (by kernel_rfl)
instance c46 : CF Tryd.prog 46 := CF.mk' Tryd.func46 (by kernel_rfl) (by kernel_rfl)
instance c47 : CF Tryd.prog 47 := CF.mk' Tryd.func47 (by kernel_rfl) (by kernel_rfl)
instance c48 : CF Tryd.prog 48 := CF.mk' Tryd.func48 (by kernel_rfl) (by kernel_rfl)
instance c49 : CF Tryd.prog 49 := CF.mk' Tryd.func49 (by kernel_rfl) (by kernel_rfl)
instance c50 : CF Tryd.prog 50 := CF.mk' Tryd.func50 (by kernel_rfl) (by kernel_rfl)
instance c51 : CF Tryd.prog 51 := CF.mk' Tryd.func51 (by kernel_rfl) (by kernel_rfl)
instance c52 : CF Tryd.prog 52 := CF.mk' Tryd.func52 (by kernel_rfl) (by kernel_rfl)
instance c53 : CF Tryd.prog 53 := CF.mk' Tryd.func53 (by kernel_rfl) (by kernel_rfl)
instance c54 : CF Tryd.prog 54 := CF.mk' Tryd.func54 (by kernel_rfl) (by kernel_rfl)
instance c55 : CF Tryd.prog 55 := CF.mk' Tryd.func55 (by kernel_rfl) (by kernel_rfl)
instance c56 : CF Tryd.prog 56 := CF.mk' Tryd.func56 (by kernel_rfl) (by kernel_rfl)
instance c57 : CF Tryd.prog 57 := CF.mk' Tryd.func57 (by kernel_rfl) (by kernel_rfl)
instance c58 : CF Tryd.prog 58 := CF.mk' Tryd.func58 (by kernel_rfl) (by kernel_rfl)
instance c59 : CF Tryd.prog 59 := CF.mk' Tryd.func59 (by kernel_rfl) (by kernel_rfl)
instance c60 : CF Tryd.prog 60 := CF.mk' Tryd.func60 (by kernel_rfl) (by kernel_rfl)
instance c61 : CF Tryd.prog 61 := CF.mk' Tryd.func61 (by kernel_rfl) (by kernel_rfl)
instance c62 : CF Tryd.prog 62 := CF.mk' Tryd.func62 (by kernel_rfl) (by kernel_rfl)
instance c63 : CF Tryd.prog 63 := CF.mk' Tryd.func63 (by kernel_rfl) (by kernel_rfl)
instance c64 : CF Tryd.prog 64 := CF.mk' Tryd.func64 (by kernel_rfl) (by kernel_rfl)
instance c65 : CF Tryd.prog 65 := CF.mk' Tryd.func65 (by kernel_rfl) (by kernel_rfl)
instance c66 : CF Tryd.prog 66 := CF.mk' Tryd.func66 (by kernel_rfl) (by kernel_rfl)
instance c67 : CF Tryd.prog 67 := CF.mk' Tryd.func67 (by kernel_rfl) (by kernel_rfl)
instance c68 : CF Tryd.prog 68 := CF.mk' Tryd.func68 (by kernel_rfl) (by kernel_rfl)
instance c69 : CF Tryd.prog 69 := CF.mk' Tryd.func69 (by kernel_rfl) (by kernel_rfl)
instance c70 : CF Tryd.prog 70 := CF.mk' Tryd.func70 (by kernel_rfl) (by kernel_rfl)
instance c71 : CF Tryd.prog 71 := CF.mk' Tryd.func71 (by kernel_rfl) (by kernel_rfl)
instance c72 : CF Tryd.prog 72 := CF.mk' Tryd.func72 (by kernel_rfl) (by kernel_rfl)
instance c73 : CF Tryd.prog 73 := CF.mk' Tryd.func73 (by kernel_rfl) (by kernel_rfl)
instance c74 : CF Tryd.prog 74 := CF.mk' Tryd.func74 (by kernel_rfl) (by kernel_rfl)
instance c75 : CF Tryd.prog 75 := CF.mk' Tryd.func75 (by kernel_rfl) (by kernel_rfl)
instance c76 : CF Tryd.prog 76 := CF.mk' Tryd.func76 (by kernel_rfl) (by kernel_rfl)
instance c77 : CF Tryd.prog 77 := CF.mk' Tryd.func77 (by kernel_rfl) (by kernel_rfl)
instance c78 : CF Tryd.prog 78 := CF.mk' Tryd.func78 (by kernel_rfl) (by kernel_rfl)
instance c79 : CF Tryd.prog 79 := CF.mk' Tryd.func79 (by kernel_rfl) (by kernel_rfl)
instance c80 : CF Tryd.prog 80 := CF.mk' Tryd.func80 (by kernel_rfl) (by kernel_rfl)
instance c81 : CF Tryd.prog 81 := CF.mk' Tryd.func81 (by kernel_rfl) (by kernel_rfl)
instance c82 : CF Tryd.prog 82 := CF.mk' Tryd.func82 (by kernel_rfl) (by kernel_rfl)
instance c83 : CF Tryd.prog 83 := CF.mk' Tryd.func83 (by kernel_rfl) (by kernel_rfl)
instance c84 : CF Tryd.prog 84 := CF.mk' Tryd.func84 (by kernel_rfl) (by kernel_rfl)
instance c88 : CF Tryd.prog 88 := CF.mk' Tryd.func88 (by kernel_rfl) (by kernel_rfl)
instance c90 : CF Tryd.prog 90 := CF.mk' Tryd.func90 (by kernel_rfl) (by kernel_rfl)
instance c91 : CF Tryd.prog 91 := CF.mk' Tryd.func91 (by kernel_rfl) (by kernel_rfl)
instance c92 : CF Tryd.prog 92 := CF.mk' Tryd.func92 (by kernel_rfl) (by kernel_rfl)
instance c93 : CF Tryd.prog 93 := CF.mk' Tryd.func93 (by kernel_rfl) (by kernel_rfl)
instance c94 : CF Tryd.prog 94 := CF.mk' Tryd.func94 (by kernel_rfl) (by kernel_rfl)
instance c95 : CF Tryd.prog 95 := CF.mk' Tryd.func95 (by kernel_rfl) (by kernel_rfl)
instance c96 : CF Tryd.prog 96 := CF.mk' Tryd.func96 (by kernel_rfl) (by kernel_rfl)
instance c97 : CF Tryd.prog 97 := CF.mk' Tryd.func97 (by kernel_rfl) (by kernel_rfl)
instance c98 : CF Tryd.prog 98 := CF.mk' Tryd.func98 (by kernel_rfl) (by kernel_rfl)
instance c99 : CF Tryd.prog 99 := CF.mk' Tryd.func99 (by kernel_rfl) (by kernel_rfl)
instance c100 : CF Tryd.prog 100 := CF.mk' Tryd.func100 (by kernel_rfl) (by kernel_rfl)
instance c101 : CF Tryd.prog 101 := CF.mk' Tryd.func101 (by kernel_rfl) (by kernel_rfl)
instance c102 : CF Tryd.prog 102 := CF.mk' Tryd.func102 (by kernel_rfl) (by kernel_rfl)
instance c103 : CF Tryd.prog 103 := CF.mk' Tryd.func103 (by kernel_rfl) (by kernel_rfl)
instance c104 : CF Tryd.prog 104 := CF.mk' Tryd.func104 (by kernel_rfl) (by kernel_rfl)
instance c105 : CF Tryd.prog 105 := CF.mk' Tryd.func105 (by kernel_rfl) (by kernel_rfl)
instance c108 : CF Tryd.prog 108 := CF.mk' Tryd.func108 (by kernel_rfl) (by kernel_rfl)
instance c109 : CF Tryd.prog 109 := CF.mk' Tryd.func109 (by kernel_rfl) (by kernel_rfl)
instance c110 : CF Tryd.prog 110 := CF.mk' Tryd.func110 (by kernel_rfl) (by kernel_rfl)
instance c111 : CF Tryd.prog 111 := CF.mk' Tryd.func111 (by kernel_rfl) (by kernel_rfl)
instance c112 : CF Tryd.prog 112 := CF.mk' Tryd.func112 (by kernel_rfl) (by kernel_rfl)
instance c113 : CF Tryd.prog 113 := CF.mk' Tryd.func113 (by kernel_rfl) (by kernel_rfl)
instance c114 : CF Tryd.prog 114 := CF.mk' Tryd.func114 (by kernel_rfl) (by kernel_rfl)
instance c115 : CF Tryd.prog 115 := CF.mk' Tryd.func115 (by kernel_rfl) (by kernel_rfl)
instance c135 : CF Tryd.prog 135 := CF.mk' Tryd.func135 (by kernel_rfl) (by kernel_rfl)
instance c154 : CF Tryd.prog 154 := CF.mk' Tryd.func154 (by kernel_rfl) (by kernel_rfl)
end Go.Proofs.YtfelcdbhlahehaaDoor

/- Rows of rows; ranges over functions inside loops. -/
namespace Go.Sp
open Go.RowKit

theorem up_vw (sz : Nat) (v : Value) (n : Nat) (cs : List Value) : Up (Vw sz v n cs) := by
  rintro h h' hl ⟨h1, h0, p, cap, h2, h3⟩
  refine ⟨h1, h0, p, cap, h2, h3.imp id ?_⟩
  rintro ⟨b, o, all, e, fz, h4, h5, h6⟩
  exact ⟨b, o, all, e, fz, h4, hl _ _ h5, h6⟩
theorem star_two {A B : HP} (ha : Up A) (hb : Up B) {k : Part} (h : Star [A, B] k) : A k ∧ B k := by
  obtain ⟨h1, h2, c, l1, l2, pa, h3, h4, c2, l3, l4, pb, _⟩ := h
  exact ⟨ha _ _ l1 pa, hb _ _ (l3.trans l2) pb⟩
/-- Values that are slices of numbers, frozen. -/
def Lists (lvs : List Value) (ls : List (List Int)) : HP := fun h => lvs.length = ls.length ∧ ∀ (i : Nat) (lv : Value) (l : List Int), lvs[i]? = some lv → ls[i]? = some l → (∃ p cap, lv = .slice p l.length cap) ∧ Vw 1 lv l.length (ints l) h
theorem pers_lists (lvs : List Value) (ls : List (List Int)) : Pers (Lists lvs ls) := fun _ ⟨h1, h2⟩ => ⟨h1, fun i lv l a b => ⟨(h2 i lv l a b).1, pers_vw _ _ _ _ _ (h2 i lv l a b).2⟩⟩
theorem up_lists (lvs : List Value) (ls : List (List Int)) : Up (Lists lvs ls) := fun _ _ hl ⟨h1, h2⟩ => ⟨h1, fun i lv l a b => ⟨(h2 i lv l a b).1, up_vw _ _ _ _ _ _ hl (h2 i lv l a b).2⟩⟩
instance (lvs : List Value) (ls : List (List Int)) : PersA (Lists lvs ls) := ⟨pers_lists lvs ls⟩
theorem lists_nil (h : Part) : Lists [] [] h := ⟨rfl, fun i lv l a => by simp at a⟩
/-- A slice of such. -/
def VLists (v : Value) (ls : List (List Int)) : HP := fun h => ∃ lvs : List Value, Vw 1 v ls.length lvs h ∧ Lists lvs ls h
theorem pers_vlists (v : Value) (ls : List (List Int)) : Pers (VLists v ls) := fun _ ⟨lvs, h1, h2⟩ => ⟨lvs, pers_vw _ _ _ _ _ h1, pers_lists _ _ _ h2⟩
instance (v : Value) (ls : List (List Int)) : PersA (VLists v ls) := ⟨pers_vlists v ls⟩
theorem Sat.lists_push {w : World} {lvs : List Value} {ls : List (List Int)} {p : Option Addr} {cap : Nat} {l : List Int} {L : List HP} (h : Sat w (Lists lvs ls :: Vw 1 (.slice p l.length cap) l.length (ints l) :: L)) : Sat w (Lists (lvs ++ [.slice p l.length cap]) (ls ++ [l]) :: L) := by
  refine Sat.join (M := [Lists lvs ls, Vw 1 (.slice p l.length cap) l.length (ints l)]) h fun k hk => ?_
  obtain ⟨h1, h2⟩ := star_two (up_lists _ _) (up_vw _ _ _ _) hk
  refine ⟨by simp [h1.1], fun i lv m a b => ?_⟩
  by_cases hi : i < lvs.length
  · rw [List.getElem?_append_left hi] at a
    rw [List.getElem?_append_left (by rw [← h1.1]; exact hi)] at b
    exact h1.2 i lv m a b
  · have hi2 : i = lvs.length := by
      have := (List.getElem?_eq_some_iff.1 a).1
      simp at this; omega
    subst hi2
    rw [List.getElem?_append_right (Nat.le_refl _)] at a
    rw [h1.1, List.getElem?_append_right (Nat.le_refl _)] at b
    simp at a b
    subst a b
    exact ⟨⟨_, _, rfl⟩, h2⟩
theorem Sat.vlists {w : World} {v : Value} {lvs : List Value} {ls : List (List Int)} {L : List HP} (h : Sat w (Vw 1 v ls.length lvs :: Lists lvs ls :: L)) : Sat w (VLists v ls :: L) :=
  Sat.join (M := [Vw 1 v ls.length lvs, Lists lvs ls]) h fun _ hk => ⟨lvs, star_two (up_vw _ _ _ _) (up_lists _ _) hk⟩

theorem Ent.vlists {v : Value} {lvs : List Value} {ls : List (List Int)} {n : Nat} {L : List HP} (hn : n = ls.length) : Ent (Vw 1 v n lvs :: Lists lvs ls :: L) (VLists v ls :: L) := fun F w hs => by
  subst hn
  exact (Sat.vlists (hs.perm ((List.Perm.swap _ _ _).trans (List.Perm.cons _ (List.Perm.swap _ _ _))))).swap
theorem Ent.lists_push {lvs : List Value} {ls : List (List Int)} {p : Option Addr} {cap : Nat} {l : List Int} {L : List HP} {cs : List Value} (hc : cs = ints l) : Ent (Lists lvs ls :: Vw 1 (.slice p l.length cap) l.length cs :: L) (Lists (lvs ++ [.slice p l.length cap]) (ls ++ [l]) :: L) := fun F w hs => by
  subst hc
  exact (Sat.lists_push (hs.perm ((List.Perm.swap _ _ _).trans (List.Perm.cons _ (List.Perm.swap _ _ _))))).swap
theorem lists_at {lvs : List Value} {ls : List (List Int)} {i : Nat} {l : List Int} (hl : ls[i]? = some l) (k : Part) (h : Lists lvs ls k) : ∃ x : { q : Option Addr × Nat // lvs[i]? = some (.slice q.1 l.length q.2) }, Star [Vw 1 (.slice x.1.1 l.length x.1.2) l.length (ints l)] k := by
  have hi := (List.getElem?_eq_some_iff.1 hl).1
  obtain ⟨lv, hlv⟩ : ∃ lv, lvs[i]? = some lv := ⟨_, List.getElem?_eq_getElem (by rw [h.1]; exact hi)⟩
  obtain ⟨⟨p, cap, rfl⟩, hv⟩ := h.2 i lv l hlv hl
  refine ⟨⟨(p, cap), hlv⟩, star_pers ?_⟩
  intro A hA
  simp only [List.mem_cons, List.not_mem_nil, or_false] at hA
  subst hA
  exact ⟨pers_vw _ _ _ _, hv⟩
theorem vlists_open {v : Value} {ls : List (List Int)} (k : Part) (h : VLists v ls k) : ∃ lvs : List Value, Star [Vw 1 v ls.length lvs, Lists lvs ls] k := by
  obtain ⟨lvs, h1, h2⟩ := h
  refine ⟨lvs, star_pers ?_⟩
  intro A hA
  simp only [List.mem_cons, List.not_mem_nil, or_false] at hA
  rcases hA with rfl | rfl
  · exact ⟨pers_vw _ _ _ _, h1⟩
  · exact ⟨pers_lists _ _, h2⟩
theorem Ent.dup (A : HP) {L M : List HP} [hp : PersA A] [t : Tk A L M] : Ent L (A :: L) := fun F w hs => by
  have h1 := (hs.perm (t.h.cons F)).swap.dup hp.h
  have h2 : Sat w (A :: F :: L) := h1.perm (List.Perm.cons A ((List.Perm.swap F A M).trans (t.h.symm.cons F)))
  exact h2.swap

def bools (l : List Bool) : List Value := l.map Value.bool
theorem bools_get {l : List Bool} {i : Nat} {b : Bool} (h : l[i]? = some b) : (bools l)[i]? = some (.bool b) := by simp [bools, h]
theorem bools_set (l : List Bool) (i : Nat) (b : Bool) : (bools l).set i (.bool b) = bools (l.set i b) := by simp [bools, List.map_set]
theorem bools_make (n : Nat) : List.replicate n (Value.bool false) = bools (List.replicate n false) := by simp [bools]
theorem length_bools (l : List Bool) : (bools l).length = l.length := by simp [bools]
/-- What the statements that have run through left, one each. -/
def Marks (rs : List Nat) : HP := Star (rs.map fun r => pt r (.deferred (some [])))
theorem Ent.mark {r : Nat} {rs : List Nat} {L : List HP} : Ent (pt r (.deferred (some [])) :: Marks rs :: L) (Marks (r :: rs) :: L) := fun F w hs => by
  have h1 : Sat w (pt r (.deferred (some [])) :: Marks rs :: F :: L) := hs.perm ((List.Perm.swap _ _ _).trans (List.Perm.cons _ (List.Perm.swap _ _ _)))
  have h2 : Sat w (Marks (r :: rs) :: F :: L) := Sat.join (M := [pt r (.deferred (some [])), Marks rs]) h1 fun k hk => by
    obtain ⟨a, b, c, l1, l2, pa, pb⟩ := hk
    obtain ⟨a2, b2, c2, l3, l4, pa2, _⟩ := pb
    exact ⟨a, a2, c.le (Le.refl _) l3, l1, l3.trans l2, pa, pa2⟩
  exact h2.swap
theorem Ent.marks0 {L : List HP} : Ent L (Marks [] :: L) := .cons fun _ _ hs => hs.add trivial

section
variable {P : Program} {N : Nat} {rd : Option Nat} {E : Env} {D : List Deferred} {L : List HP} {Q : Post} {next : Env → List Deferred → List HP → Prop}
def bodyQMs (P : Program) (N : Nat) (fn : Func) (R : Ending → List HP → Prop) : Post
  | .normal, E, D, L | .ret, E, D, L => ∃ rs : List Nat, D = rs.map collected ∧ ∃ L0, Ent L (Marks rs :: L0) ∧ ∃ v, Res P N fn E L0 v ∧ ∃ L', Ent L0 L' ∧ R (.returned v) L'
  | _, _, _, _ => False
theorem marksQ_of {K : List HP → Prop} {L : List HP} (h : K L) : ∀ rs : List Nat, MarksQ (rs.map collected) (rs.map (fun r => pt r (.deferred (some []))) ++ L) K
  | [] => h
  | _ :: rs => ⟨_, _, rfl, List.Perm.refl _, marksQ_of h rs⟩
theorem fn_retMs {f : FuncId} {fn : Func} {c : Code} {vs : List Value} {R : Ending → List HP → Prop} (hf : P.funcs[f]? = some fn) (hb : fn.body = some c) (hn : fn.ntmps = N) (hN : vs.length ≤ N)
    (h : J P N none c (argEnv 0 vs) [] L (bodyQMs P N fn R)) : Ct P f vs.toArray L R := by
  have key : ∀ (F : HP) (L' : List HP) (D : List Deferred) (a : Act) (w' : World) (E : Env), Rep N E a.defers a → a.defers = D → Sat w' (F :: L') →
      (∃ rs : List Nat, D = rs.map collected ∧ ∃ L0, Ent L' (Marks rs :: L0) ∧ ∃ v, Res P N fn E L0 v ∧ ∃ L', Ent L0 L' ∧ R (.returned v) L') →
      LeavesInM Fence.wide 0 P fn a.tmps (fun e w' => e ≠ .outgrown ∧ ∃ L', R e L' ∧ Sat w' (F :: L')) a.defers .returning w' := by
    rintro F L' D a w' E hr hd s ⟨rs, rfl, L0, he, v, hv, L2, he2, hR⟩
    rw [hd] at hr ⊢
    have s1 := (he F w' s).swap
    have s2 : Sat w' (F :: (rs.map (fun r => pt r (.deferred (some []))) ++ L0)) := by
      have := Sat.fold.2 s1
      exact this.perm List.perm_middle
    refine leaves_marks (R := R) (F := F) _ _ a w' E ?_ s2 (marksQ_of ⟨v, hv, L2, he2, hR⟩ rs)
    rw [hd]; exact hr
  intro F w hs
  refine (callsIn_wide (n := 0)).1 (callsIn_of_wp_marks hf hb trivial ?_ rfl)
  have h1 := h F _ w (rep_args vs hN) hs
  rw [hn]
  refine wpIn_mono h1 ?_
  rintro e a w' ⟨E, D, L', q, r, s⟩
  cases e with
  | normal => exact key F L' D a w' E ⟨r.1, rfl, r.2.2⟩ r.2.1 s q
  | ret => exact key F L' D a w' E ⟨r.1, rfl, r.2.2⟩ r.2.1 s q
  | panic ch => exact q.elim
  | exit id => exact q.elim
  | goto l => exact q.elim
  | outgrown => exact q.elim
theorem retMs_cell {α : Type} {φ : α → Prop} {v : α → Value} {L0 : α → List HP} {rs : List Nat} {M : List HP} {fn : Func} {a t n : Nat} [TA P t n] {b : Nat} {cs : List Value} {bt : TypeId} {fz : Nat × Nat} (hr : fn.results = #[.cell a t]) (hv : Env.get E a = some (.pointer (some ⟨b, 0, none⟩)))
    (hD : D = rs.map collected) (hm : Ent L (Marks rs :: M)) [hb : HB M b (.cells cs.toArray bt fz)] (hn : cs.length = n) (x : α) (hφ : φ x) (hu : .agg cs.toArray = v x) (he : Ent M (L0 x)) :
    bodyQMs P N fn (RetE φ v L0) .ret E D L := ⟨rs, hD, M, hm, _, res_cell (b := b) (cs := cs) (bt := bt) (fz := fz) hr hv hn, _, he, x, hφ, by rw [hu], rfl⟩
end
end Go.Sp
