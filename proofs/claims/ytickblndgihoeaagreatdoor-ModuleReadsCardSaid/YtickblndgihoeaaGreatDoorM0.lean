/- A small separation logic over the model's worlds: parts of a heap (each block owned, or frozen), lists of assertions, and what a world must hold. No program in sight. -/
import Derived.CallsIn
import Derived.RangeFuncLeaves
import Derived.RecoverIn
import Derived.KernelRfl
import Derived.WalkKit
import Derived.Laws.OwnMore
import Derived.Lib.SliceRun
import Derived.RangeFuncNested
import Derived.Test.YtickblndgihoeaaGreatDoorProg
import Derived.ArgAppend
import Derived.Scope
import Derived.OrdersIn
import Derived.OrdersHeld
import Derived.Laws.IdiomStrings
import Derived.Laws.AppendOwn
import Derived.Laws.BytesArg
set_option linter.unusedSimpArgs false
namespace Go.Sp

inductive Cel where
  | obj (o : Obj)
  | stat (os : Os) (tape : Nat → Question → Nat) (output : Array (Nat × ByteArray))
def at_ (w : World) : Option Nat → Option Cel
  | some b => (w.heap[b]?).map .obj
  | none => some (.stat w.os w.tape w.output)
abbrev Part := Option Nat → Option (Bool × Cel)

def Le (h1 h : Part) : Prop := ∀ b x,h1 b = some x → h b = some x
def Comp (h1 h2 : Part) : Prop := ∀ b x y,h1 b = some x → h2 b = some y → x.1 = true ∧ x = y
def jn (h1 h2 : Part) : Part := fun b => match h1 b with | some x => some x | none => h2 b
def ice (h : Part) : Part := fun b => match h b with | some (true,o) => some (true,o) | _ => none

abbrev HP := Part → Prop

def Star : List HP → Part → Prop
  | [],_ => True
  | A :: L,h => ∃ h1 h2,Comp h1 h2 ∧ Le h1 h ∧ Le h2 h ∧ A h1 ∧ Star L h2

theorem Le.refl (h : Part) : Le h h := fun _ _ e => e
theorem Le.trans {a b c : Part} (h : Le a b) (k : Le b c) : Le a c := fun _ _ e => k _ _ (h _ _ e)
theorem Comp.symm {a b : Part} (h : Comp a b) : Comp b a := fun k x y hx hy => by
  obtain ⟨h1,h2⟩ := h k y x hy hx
  exact ⟨h2 ▸ h1,h2.symm⟩
theorem Comp.le {a b a' b' : Part} (h : Comp a b) (ha : Le a' a) (hb : Le b' b) : Comp a' b' := fun k x y hx hy => h k x y (ha _ _ hx) (hb _ _ hy)
theorem le_join_l (a b : Part) : Le a (jn a b) := fun k x h => by simp [jn,h]
theorem le_join_r {a b : Part} (hc : Comp a b) : Le b (jn a b) := fun k x h => by
  unfold jn
  cases ha : a k with
  | none => exact h
  | some y => exact congrArg some (hc k y x ha h).2
theorem join_le {a b h : Part} (ha : Le a h) (hb : Le b h) : Le (jn a b) h := fun k x e => by
  unfold jn at e
  cases hk : a k with
  | none => rw [hk] at e;exact hb _ _ e
  | some y => rw [hk] at e;exact ha _ _ (by rw [hk];exact e)
theorem join_some {a b : Part} {k : Option Nat} {x : Bool × Cel} (e : jn a b k = some x) : a k = some x ∨ b k = some x := by
  unfold jn at e
  cases hk : a k with
  | none => rw [hk] at e;exact .inr e
  | some y => rw [hk] at e;exact .inl e
theorem comp_join {a b c : Part} (h1 : Comp a b) (h2 : Comp a c) : Comp a (jn b c) := fun k x y hx hy => by
  rcases join_some hy with h | h
  · exact h1 k x y hx h
  · exact h2 k x y hx h

theorem Star.le {L : List HP} {h h' : Part} (hs : Star L h) (hl : Le h h') : Star L h' := by
  cases L with
  | nil => trivial
  | cons A L => obtain ⟨a,b,c,d,e,f,g⟩ := hs;exact ⟨a,b,c,d.trans hl,e.trans hl,f,g⟩

theorem Star.swap {A B : HP} {L : List HP} {h : Part} (hs : Star (A :: B :: L) h) : Star (B :: A :: L) h := by
  obtain ⟨ha,h2,c1,l1,l2,pa,hb,hl,c2,l3,l4,pb,ps⟩ := hs
  have cal : Comp ha hl := c1.le (Le.refl _) l4
  refine ⟨hb,jn ha hl,comp_join (c1.le (Le.refl _) l3).symm c2,l3.trans l2,join_le l1 (l4.trans l2),pb,ha,hl,cal,le_join_l _ _,le_join_r cal,pa,ps⟩

theorem Star.perm {L L' : List HP} (p : L.Perm L') : ∀ {h : Part},Star L h → Star L' h := by
  induction p with
  | nil => exact fun h => h
  | cons A _ ih => rintro h ⟨a,b,c,d,e,f,g⟩;exact ⟨a,b,c,d,e,f,ih g⟩
  | swap A B L => exact fun h => h.swap
  | trans _ _ i1 i2 => exact fun h => i2 (i1 h)

theorem Star.tail {A : HP} {L : List HP} {h : Part} (hs : Star (A :: L) h) : Star L h := by
  obtain ⟨_,b,_,_,e,_,g⟩ := hs;exact g.le e

theorem Star.sub {L L' : List HP} (p : L'.Sublist L) : ∀ {h : Part},Star L h → Star L' h := by
  induction p with
  | slnil => exact fun h => h
  | cons A _ ih => exact fun h => ih h.tail
  | cons_cons A _ ih => rintro h ⟨a,b,c,d,e,f,g⟩;exact ⟨a,b,c,d,e,f,ih g⟩

theorem star_append {L1 L2 : List HP} : ∀ {h : Part},Star (L1 ++ L2) h ↔ ∃ h1 h2,Comp h1 h2 ∧ Le h1 h ∧ Le h2 h ∧ Star L1 h1 ∧ Star L2 h2 := by
  induction L1 with
  | nil =>
    intro h
    exact ⟨fun hs => ⟨fun _ => none,h,fun k x y hx => by simp at hx,fun k x hx => by simp at hx,Le.refl _,trivial,hs⟩,fun ⟨_,_,_,_,l,_,s⟩ => Star.le s l⟩
  | cons A L1 ih =>
    intro h
    constructor
    · rintro ⟨ha,h2,c,l1,l2,pa,hs⟩
      obtain ⟨hb,hc,c2,l3,l4,s1,s2⟩ := ih.1 hs
      refine ⟨jn ha hb,hc,(comp_join (c.le (Le.refl _) l4).symm c2.symm).symm,join_le l1 (l3.trans l2),l4.trans l2,⟨ha,hb,c.le (Le.refl _) l3,le_join_l _ _,le_join_r (c.le (Le.refl _) l3),pa,s1⟩,s2⟩
    · rintro ⟨h1,h2,c,l1,l2,⟨ha,hb,c2,l3,l4,pa,s1⟩,s2⟩
      have cb : Comp hb h2 := c.le l4 (Le.refl _)
      refine ⟨ha,jn hb h2,comp_join c2 (c.le l3 (Le.refl _)),l3.trans l1,join_le (l4.trans l1) l2,pa,?_⟩
      exact ih.2 ⟨hb,h2,cb,le_join_l _ _,le_join_r cb,s1,s2⟩

def Sat (w : World) (L : List HP) : Prop := ∃ h,Star L h ∧ ∀ b x,h b = some x → at_ w b = some x.2

theorem Sat.perm {w : World} {L L' : List HP} (h : Sat w L) (p : L.Perm L') : Sat w L' := let ⟨k,s,e⟩ := h;⟨k,s.perm p,e⟩
theorem Sat.sub {w : World} {L L' : List HP} (h : Sat w L) (p : L'.Sublist L) : Sat w L' := let ⟨k,s,e⟩ := h;⟨k,s.sub p,e⟩
theorem Sat.tail {w : World} {A : HP} {L : List HP} (h : Sat w (A :: L)) : Sat w L := let ⟨k,s,e⟩ := h;⟨k,s.tail,e⟩
theorem Sat.swap {w : World} {A B : HP} {L : List HP} (h : Sat w (A :: B :: L)) : Sat w (B :: A :: L) := let ⟨k,s,e⟩ := h;⟨k,s.swap,e⟩

theorem Sat.fold {w : World} {L1 L2 : List HP} : Sat w (L1 ++ L2) ↔ Sat w (Star L1 :: L2) := by
  constructor
  · rintro ⟨h,s,e⟩;obtain ⟨h1,h2,c,l1,l2,s1,s2⟩ := star_append.1 s;exact ⟨h,⟨h1,h2,c,l1,l2,s1,s2⟩,e⟩
  · rintro ⟨h,⟨h1,h2,c,l1,l2,s1,s2⟩,e⟩;exact ⟨h,star_append.2 ⟨h1,h2,c,l1,l2,s1,s2⟩,e⟩

theorem Sat.conv {w : World} {A B : HP} {L : List HP} (h : Sat w (A :: L)) (hab : ∀ k,A k → B k) : Sat w (B :: L) := by
  obtain ⟨k,⟨a,b,c,d,e,f,g⟩,m⟩ := h;exact ⟨k,⟨a,b,c,d,e,hab _ f,g⟩,m⟩
theorem Sat.out {w : World} {A : HP} {L : List HP} {φ : Prop} (h : Sat w (A :: L)) (hab : ∀ k,A k → φ) : φ := by
  obtain ⟨k,⟨a,b,c,d,e,f,g⟩,m⟩ := h;exact hab _ f
theorem Sat.outE {w : World} {A : HP} {L : List HP} {α : Sort _} {B : α → HP} (h : Sat w (A :: L)) (hab : ∀ k,A k → ∃ x,B x k) : ∃ x,Sat w (B x :: L) := by
  obtain ⟨k,⟨a,b,c,d,e,f,g⟩,m⟩ := h
  obtain ⟨x,hx⟩ := hab _ f
  exact ⟨x,k,⟨a,b,c,d,e,hx,g⟩,m⟩
theorem Sat.split {w : World} {A : HP} {M L : List HP} (h : Sat w (A :: L)) (hab : ∀ k,A k → Star M k) : Sat w (M ++ L) :=
  Sat.fold.2 (h.conv hab)
theorem Sat.join {w : World} {A : HP} {M L : List HP} (h : Sat w (M ++ L)) (hab : ∀ k,Star M k → A k) : Sat w (A :: L) :=
  (Sat.fold.1 h).conv hab

theorem Sat.add {w : World} {A : HP} {L : List HP} (h : Sat w L) (hA : A (fun _ => none)) : Sat w (A :: L) := by
  obtain ⟨k,s,m⟩ := h
  exact ⟨k,⟨fun _ => none,k,fun _ _ _ hx => (by cases hx),fun _ _ hx => (by cases hx),Le.refl _,hA,s⟩,m⟩

def pt (b : Nat) (o : Obj) : HP := fun h => h (some b) = some (false,.obj o)
def ro (b : Nat) (o : Obj) : HP := fun h => h (some b) = some (true,.obj o)

theorem at_obj {w : World} {b : Nat} {o : Obj} (h : at_ w (some b) = some (.obj o)) : w.heap[b]? = some o := by
  simp only [at_,Option.map_eq_some_iff] at h
  obtain ⟨o',h1,h2⟩ := h
  cases h2
  exact h1
theorem Sat.pt_heap {w : World} {b : Nat} {o : Obj} {L : List HP} (h : Sat w (pt b o :: L)) : w.heap[b]? = some o := by
  obtain ⟨k,⟨a,_,_,d,_,f,_⟩,m⟩ := h;exact at_obj (m _ _ (d _ _ f))
theorem Sat.ro_heap {w : World} {b : Nat} {o : Obj} {L : List HP} (h : Sat w (ro b o :: L)) : w.heap[b]? = some o := by
  obtain ⟨k,⟨a,_,_,d,_,f,_⟩,m⟩ := h;exact at_obj (m _ _ (d _ _ f))

def Pers (A : HP) : Prop := ∀ h,A h → A (ice h)
def Up (A : HP) : Prop := ∀ h h',Le h h' → A h → A h'
theorem ice_le (h : Part) : Le (ice h) h := fun b x e => by
  unfold ice at e
  split at e
  · rename_i o ho;rw [ho];exact e
  · cases e
theorem ice_comp (h : Part) : Comp (ice h) h := fun b x y e k => by
  have := ice_le h b x e
  have hxy : y = x := Option.some.inj (k.symm.trans this)
  subst hxy
  unfold ice at e
  rw [k] at e
  obtain ⟨f,o⟩ := y
  cases f
  · cases e
  · exact ⟨rfl,rfl⟩
theorem ice_ice {h : Part} {b : Option Nat} {o : Cel} (e : h b = some (true,o)) : ice h b = some (true,o) := by simp [ice,e]

theorem Sat.dup {w : World} {A : HP} {L : List HP} (h : Sat w (A :: L)) (hp : Pers A) : Sat w (A :: A :: L) := by
  obtain ⟨k,⟨a,b,c,d,e,f,g⟩,m⟩ := h
  refine ⟨k,⟨ice a,jn a b,?_,(ice_le a).trans d,join_le d e,hp _ f,a,b,c,le_join_l _ _,le_join_r c,f,g⟩,m⟩
  exact comp_join (ice_comp a) (c.le (ice_le a) (Le.refl _))

theorem pers_ro (b : Nat) (o : Obj) : Pers (ro b o) := fun _ e => ice_ice e

def setObj (w : World) (b : Nat) (o : Obj) : World := { w with heap := w.heap.setIfInBounds b o }
def upd (h : Part) (b : Option Nat) (x : Bool × Cel) : Part := fun k => if k = b then some x else h k

theorem Sat.set {w : World} {b : Nat} {o : Obj} {L : List HP} (h : Sat w (pt b o :: L)) (o' : Obj) (fr : Bool) : Sat (setObj w b o') ((if fr then ro b o' else pt b o') :: L) := by
  have hb := h.pt_heap
  obtain ⟨k,⟨a,l,c,d,e,f,g⟩,m⟩ := h
  have hl : l (some b) = none := by
    cases hlb : l (some b) with
    | none => rfl
    | some y => have := (c _ _ y f hlb).1;cases this
  refine ⟨upd l (some b) (fr,.obj o'),⟨fun k => if k = some b then some (fr,.obj o') else none,l,?_,?_,?_,?_,g⟩,?_⟩
  · intro k x y hx hy
    by_cases hk : k = some b
    · subst hk;rw [hl] at hy;cases hy
    · simp [hk] at hx
  · intro k x hx
    by_cases hk : k = some b
    · simpa [upd,hk] using hx
    · simp [hk] at hx
  · intro k x hx
    by_cases hk : k = some b
    · subst hk;rw [hl] at hx;cases hx
    · simpa [upd,hk] using hx
  · cases fr <;> simp [pt,ro]
  · intro k x hx
    unfold upd at hx
    by_cases hk : k = some b
    · subst hk
      simp at hx
      subst hx
      have := Array.getElem?_eq_some_iff.1 hb
      simp [at_,setObj,this.1]
    · simp only [hk,if_false] at hx
      have := m k x (e _ _ hx)
      cases k with
      | none => simpa [at_,setObj] using this
      | some j =>
        have hj : ¬ b = j := fun e => hk (by rw [e])
        simpa [at_,setObj,Array.getElem?_setIfInBounds,hj] using this

theorem Sat.set_pt {w : World} {b : Nat} {o : Obj} {L : List HP} (h : Sat w (pt b o :: L)) (o' : Obj) : Sat (setObj w b o') (pt b o' :: L) := h.set o' false

theorem setObj_same {w : World} {b : Nat} {o : Obj} (hb : w.heap[b]? = some o) : setObj w b o = w := by
  unfold setObj
  have h2 := Array.getElem?_eq_some_iff.1 hb
  have : w.heap.setIfInBounds b o = w.heap := by
    apply Array.ext_getElem?
    intro i
    by_cases hi : i = b
    · subst hi;simp [h2.1,h2.2]
    · simp [Ne.symm hi]
  rw [this]
theorem Sat.freeze {w : World} {b : Nat} {o : Obj} {L : List HP} (h : Sat w (pt b o :: L)) : Sat w (ro b o :: L) := by
  have := h.set o true
  rw [setObj_same h.pt_heap] at this
  simpa using this

theorem Sat.new {w : World} {L : List HP} (h : Sat w L) (o : Obj) : Sat { w with heap := w.heap.push o } (pt w.heap.size o :: L) := by
  obtain ⟨k,s,m⟩ := h
  have hk : k (some w.heap.size) = none := by
    cases hh : k (some w.heap.size) with
    | none => rfl
    | some y => have := m _ _ hh;simp [at_] at this
  refine ⟨upd k (some w.heap.size) (false,.obj o),⟨fun j => if j = some w.heap.size then some (false,.obj o) else none,k,?_,?_,?_,?_,s⟩,?_⟩
  · intro j x y hx hy
    by_cases hj : j = some w.heap.size
    · subst hj;rw [hk] at hy;cases hy
    · simp [hj] at hx
  · intro j x hx
    by_cases hj : j = some w.heap.size
    · simpa [upd,hj] using hx
    · simp [hj] at hx
  · intro j x hx
    by_cases hj : j = some w.heap.size
    · subst hj;rw [hk] at hx;cases hx
    · simpa [upd,hj] using hx
  · simp [pt]
  · intro j x hx
    unfold upd at hx
    by_cases hj : j = some w.heap.size
    · subst hj;simp at hx;subst hx;simp [at_]
    · simp only [hj,if_false] at hx
      have := m j x hx
      cases j with
      | none => simpa [at_] using this
      | some i =>
        simp only [at_,Option.map_eq_some_iff] at this ⊢
        obtain ⟨o',h1,h2⟩ := this
        have h3 := Array.getElem?_eq_some_iff.1 h1
        obtain ⟨h4,_⟩ := h3
        have h5 : ¬ i = w.heap.size := by omega
        exact ⟨o',by simp [Array.getElem?_push,h5,h1],h2⟩

theorem Sat.grown {w w' : World} {b : Nat} {o o' : Obj} {L : List HP} (h : Sat w (pt b o :: L)) (ho : w'.os = w.os) (ht : w'.tape = w.tape) (hp : w'.output = w.output)
    (hk : ∀ k,k < w.heap.size → k ≠ b → w'.heap[k]? = w.heap[k]?) (hb' : w'.heap[b]? = some o') : Sat w' (pt b o' :: L) := by
  have hs := h.set_pt o'
  have hb := h.pt_heap
  obtain ⟨k,s,m⟩ := hs
  refine ⟨k,s,fun j x hx => ?_⟩
  have := m j x hx
  cases j with
  | none => simpa [at_,setObj,ho,ht,hp] using this
  | some i =>
    simp only [at_,Option.map_eq_some_iff] at this ⊢
    obtain ⟨u,h1,h2⟩ := this
    refine ⟨u,?_,h2⟩
    by_cases hi : i = b
    · subst hi
      have := Array.getElem?_eq_some_iff.1 hb
      simp [setObj,this.1] at h1
      rw [hb',h1]
    · simp [setObj,Ne.symm hi] at h1
      have h3 := Array.getElem?_eq_some_iff.1 h1
      rw [hk i h3.1 hi,h1]
theorem Sat.more {w w' : World} {L : List HP} (h : Sat w L) (ho : w'.os = w.os) (ht : w'.tape = w.tape) (hp : w'.output = w.output)
    (hk : ∀ k,k < w.heap.size → w'.heap[k]? = w.heap[k]?) : Sat w' L := by
  obtain ⟨k,s,m⟩ := h
  refine ⟨k,s,fun j x hx => ?_⟩
  have := m j x hx
  cases j with
  | none => simpa [at_,ho,ht,hp] using this
  | some i =>
    simp only [at_,Option.map_eq_some_iff] at this ⊢
    obtain ⟨u,h1,h2⟩ := this
    have h3 := Array.getElem?_eq_some_iff.1 h1
    exact ⟨u,by rw [hk i h3.1,h1],h2⟩
theorem Sat.world {w w' : World} {L : List HP} (h : Sat w L) (e : w'.heap = w.heap) (ho : w'.os = w.os := by rfl) (ht : w'.tape = w.tape := by rfl) (hp : w'.output = w.output := by rfl) : Sat w' L :=
  h.more ho ht hp fun k _ => by rw [e]

def Base (w0 : World) : HP := fun h => (∀ b o,w0.heap[b]? = some o → h (some b) = some (true,.obj o)) ∧ h none = some (true,.stat w0.os w0.tape w0.output)
theorem sat_base (w : World) : Sat w [Base w] := by
  refine ⟨fun b => (at_ w b).map fun o => (true,o),⟨_,fun _ => none,?_,Le.refl _,?_,⟨fun b o h => by simp [at_,h],by simp [at_]⟩,trivial⟩,fun b x hx => ?_⟩
  · intro b x y _ hy;cases hy
  · intro b x hx;cases hx
  · simp only [Option.map_eq_some_iff] at hx
    obtain ⟨o,h1,rfl⟩ := hx
    exact h1
theorem pers_base (w : World) : Pers (Base w) := fun _ h => ⟨fun b o e => ice_ice (h.1 b o e),ice_ice h.2⟩
theorem Sat.base {w w0 : World} {L : List HP} (h : Sat w (Base w0 :: L)) : (∀ (b : Nat) (o : Obj),w0.heap[b]? = some o → w.heap[b]? = some o) ∧ w.os = w0.os ∧ w.tape = w0.tape ∧ w.output = w0.output := by
  obtain ⟨k,⟨a,l,c,d,e,f,g⟩,m⟩ := h
  refine ⟨fun b o hb => at_obj (m _ _ (d _ _ (f.1 b o hb))),?_⟩
  have := m _ _ (d _ _ f.2)
  simp only [at_,Option.some.injEq] at this
  injection this with h1 h2 h3
  exact ⟨h1,h2,h3⟩
end Go.Sp

/- Judgements on code,over lists of assertions: what of a frame is known is a list of slots and values. The rules of control flow;calls;a function's contract from its body. -/
namespace Go.Sp

abbrev Env := List (Nat × Value)
def Env.get : Env → Nat → Option Value
  | [],_ => none
  | (k,v) :: E,t => match Nat.beq k t with | true => some v | false => Env.get E t
def ev (E : Env) : Operand → Option Value
  | .tmp t => Env.get E t
  | .const v => some v
  | .global g => some (.pointer (some ⟨g,0,none⟩))
  | .func f => some (.func (.func f) #[] #[])
def evs (E : Env) : List Operand → Option (List Value)
  | [] => some []
  | x :: l => match ev E x,evs E l with | some v,some vs => some (v :: vs) | _,_ => none
def put (E : Env) (d : Option Nat) (v : Value) : Env := match d with | some k => (k,v) :: E | none => E
def dok (N : Nat) (d : Option Nat) : Bool := match d with | some k => Nat.blt k N | none => true

def Rep (N : Nat) (E : Env) (D : List Deferred) (a : Act) : Prop := a.tmps.size = N ∧ a.defers = D ∧ ∀ t v,Env.get E t = some v → a.tmps[t]? = some v

theorem beq_false {k t : Nat} (h : ¬ k = t) : Nat.beq k t = false := by
  cases hb : Nat.beq k t with
  | false => rfl
  | true => exact absurd (Nat.eq_of_beq_eq_true hb) h
theorem get_cons (k : Nat) (v : Value) (E : Env) (t : Nat) : Env.get ((k,v) :: E) t = if k = t then some v else Env.get E t := by
  simp only [Env.get]
  by_cases h : k = t
  · subst h;simp
  · have : Nat.beq k t = false := beq_false h
    simp [this,h]

theorem Rep.eval {N : Nat} {E : Env} {D : List Deferred} {a : Act} {x : Operand} {v : Value} (h : Rep N E D a) (hx : ev E x = some v) : a.eval x = v := by
  cases x with
  | tmp t => have := h.2.2 t v hx;simp [Act.eval,this]
  | const u => simpa [ev,Act.eval] using hx
  | global g => simpa [ev,Act.eval] using hx
  | func f => simpa [ev,Act.eval] using hx

theorem Rep.evals {N : Nat} {E : Env} {D : List Deferred} {a : Act} (h : Rep N E D a) : ∀ {l : List Operand} {vs : List Value},evs E l = some vs → l.map a.eval = vs := by
  intro l
  induction l with
  | nil => intro vs e;simp [evs] at e;simp [e]
  | cons x l ih =>
    intro vs e
    simp only [evs] at e
    split at e
    · rename_i v us h1 h2
      cases e
      simp [h.eval h1,ih h2]
    · cases e

theorem Rep.put {N : Nat} {E : Env} {D : List Deferred} {a : Act} {d : Option Nat} (h : Rep N E D a) (hd : dok N d = true) (v : Value) : Rep N (Sp.put E d v) D (a.put d v) := by
  cases d with
  | none => exact h
  | some k =>
    have hk : k < N := by simpa [dok] using hd
    refine ⟨by simp [Act.put,h.1],by simp [Act.put,h.2.1],fun t u e => ?_⟩
    simp only [Sp.put,get_cons] at e
    by_cases ht : k = t
    · subst ht
      simp at e
      subst e
      simp [Act.put,h.1,hk]
    · simp only [ht,if_false] at e
      simp [Act.put,ht,h.2.2 t u e]

def Sub (E' E : Env) : Prop := ∀ t v,Env.get E' t = some v → Env.get E t = some v
theorem Rep.sub {N : Nat} {E E' : Env} {D : List Deferred} {a : Act} (h : Rep N E D a) (hs : Sub E' E) : Rep N E' D a := ⟨h.1,h.2.1,fun t v e => h.2.2 t v (hs t v e)⟩
theorem Sub.refl (E : Env) : Sub E E := fun _ _ e => e
theorem zM (E : Env) : Sub [] E := fun _ _ e => by simp [Env.get] at e
theorem zI {k : Nat} {v : Value} {E' E : Env} (h : Env.get E k = some v) (hs : Sub E' E) : Sub ((k,v) :: E') E := fun t u e => by
  rw [get_cons] at e
  by_cases hk : k = t
  · subst hk;simp at e;subst e;exact h
  · simp only [hk,if_false] at e;exact hs t u e

def FW (rd : Option Nat) : Fence := { Fence.wide with round := rd }

abbrev uF := Exit → Env → List Deferred → List HP → Prop

def lift (N : Nat) (F : HP) (Q : uF) : Exit → Act → World → Prop := fun e a w => ∃ E D L,Q e E D L ∧ Rep N E D a ∧ Sat w (F :: L)

section
variable (P : Program) (N : Nat) (rd : Option Nat)

def J (c : Code) (E : Env) (D : List Deferred) (L : List HP) (Q : uF) : Prop :=
  ∀ (F : HP) (a : Act) (w : World),Rep N E D a → Sat w (F :: L) → c.wpIn (FW rd) 0 P (lift N F Q) a w

def JL (all : Array Oper) (i : Nat) (rest : List Oper) (E : Env) (D : List Deferred) (L : List HP) (Q : uF) : Prop :=
  ∀ (F : HP) (a : Act) (w : World),Rep N E D a → Sat w (F :: L) → all.toList.drop i = rest → wpOpsIn (FW rd) 0 P all (lift N F Q) (List.range' i rest.length) a w

def JO (o : Oper) (E : Env) (D : List Deferred) (L : List HP) (next : Env → List Deferred → List HP → Prop) (Q : uF) : Prop :=
  ∀ (F : HP) (a : Act) (w : World),Rep N E D a → Sat w (F :: L) → ∀ nx : Act → World → Prop,(∀ E' D' L' a' w',next E' D' L' → Rep N E' D' a' → Sat w' (F :: L') → nx a' w') →
    o.wpIn (FW rd) 0 P a w nx (lift N F Q)

def Ct (f : FuncId) (args : Array Value) (L : List HP) (R : Ending → List HP → Prop) : Prop :=
  ∀ (F : HP) (w : World),Sat w (F :: L) → Calls P f args w fun e w' => e ≠ .outgrown ∧ ∃ L',R e L' ∧ Sat w' (F :: L')
end

section
variable {P : Program} {N : Nat} {rd : Option Nat} {E : Env} {D : List Deferred} {L : List HP} {Q : uF}

def thn (K : Env → List Deferred → List HP → Prop) (Q : uF) : uF
  | .normal,E,D,L => K E D L
  | e,E,D,L => Q e E D L
def inB (id : Nat) (Q : uF) : uF
  | .exit k,E,D,L => match Nat.beq k id with | true => Q .normal E D L | false => Q (.exit k) E D L
  | e,E,D,L => Q e E D L

theorem J_mono {c : Code} {Q' : uF} (h : J P N rd c E D L Q) (hq : ∀ e E D L,Q e E D L → Q' e E D L) : J P N rd c E D L Q' :=
  fun F a w hr hs => wpIn_mono (h F a w hr hs) fun _ _ _ ⟨E,D,L,q,r,s⟩ => ⟨E,D,L,hq _ _ _ _ q,r,s⟩

theorem zP (h : Q .normal E D L) : J P N rd .skip E D L Q := fun _ _ _ hr hs => wpIn_skip ⟨E,D,L,h,hr,hs⟩
theorem J_label {l : Nat} (h : Q .normal E D L) : J P N rd (.label l) E D L Q := fun _ _ _ hr hs => wpIn_label ⟨E,D,L,h,hr,hs⟩
theorem xA {id : Nat} (h : Q (.exit id) E D L) : J P N rd (.exit id) E D L Q := fun _ _ _ hr hs => wpIn_exit ⟨E,D,L,h,hr,hs⟩
theorem zV (h : Q .ret E D L) : J P N rd .ret E D L Q := fun _ _ _ hr hs => wpIn_ret ⟨E,D,L,h,hr,hs⟩

theorem zG {x y : Code} (h : J P N rd x E D L (thn (fun E D L => J P N rd y E D L Q) Q)) : J P N rd (.seq x y) E D L Q := by
  intro F a w hr hs
  refine wpIn_seq (wpIn_mono (h F a w hr hs) ?_)
  rintro e a w ⟨E,D,L,q,r,s⟩
  cases e with
  | normal => exact q F a w r s
  | exit id => exact ⟨E,D,L,q,r,s⟩
  | goto l => exact ⟨E,D,L,q,r,s⟩
  | ret => exact ⟨E,D,L,q,r,s⟩
  | panic ch => exact ⟨E,D,L,q,r,s⟩
  | outgrown => exact ⟨E,D,L,q,r,s⟩

theorem J_cond {c : Operand} {x y : Code} {b : Bool} (hc : ev E c = some (.bool b)) (ht : b = true → J P N rd x E D L Q) (hf : b = false → J P N rd y E D L Q) :
    J P N rd (.cond c x y) E D L Q := fun F a w hr hs => wpIn_cond_split (hr.eval hc) (fun h => ht h F a w hr hs) (fun h => hf h F a w hr hs)
theorem J_condP {c : Operand} {x y : Code} {p : Prop} {_ : Decidable p} (hc : ev E c = some (.bool (decide p))) (ht : p → J P N rd x E D L Q) (hf : ¬ p → J P N rd y E D L Q) :
    J P N rd (.cond c x y) E D L Q := J_cond hc (fun h => ht (of_decide_eq_true h)) (fun h => hf (of_decide_eq_false h))
theorem zL {c : Operand} {x y : Code} (hc : ev E c = some (.bool true)) (ht : J P N rd x E D L Q) : J P N rd (.cond c x y) E D L Q := J_cond hc (fun _ => ht) (fun h => by cases h)
theorem zJ {c : Operand} {x y : Code} (hc : ev E c = some (.bool false)) (ht : J P N rd y E D L Q) : J P N rd (.cond c x y) E D L Q := J_cond hc (fun h => by cases h) (fun _ => ht)

theorem zK {id : Nat} {c : Code} (h : J P N rd c E D L (inB id Q)) : J P N rd (.block id c) E D L Q := by
  intro F a w hr hs
  refine wpIn_block (wpIn_mono (h F a w hr hs) ?_)
  rintro e a w ⟨E,D,L,q,r,s⟩
  cases e with
  | exit k =>
    simp only [inB] at q
    simp only [Exit.inBlock]
    by_cases hk : k = id
    · subst hk;simp at q;simpa using ⟨E,D,L,q,r,s⟩
    · have : Nat.beq k id = false := beq_false hk
      rw [this] at q
      simpa [hk] using ⟨E,D,L,q,r,s⟩
  | normal => exact ⟨E,D,L,q,r,s⟩
  | goto l => exact ⟨E,D,L,q,r,s⟩
  | ret => exact ⟨E,D,L,q,r,s⟩
  | panic ch => exact ⟨E,D,L,q,r,s⟩
  | outgrown => exact ⟨E,D,L,q,r,s⟩

theorem xU {β : Type} {c : Code} (IE : β → Env) (ID : β → List Deferred) (IL : β → List HP) (μ : β → Nat) (x0 : β) (hE : Sub (IE x0) E) (hD : ID x0 = D)
    (hL : ∀ (F : HP) (w : World),Sat w (F :: L) → Sat w (F :: IL x0))
    (round : ∀ x,J P N rd c (IE x) (ID x) (IL x) (thn (fun E' D' L' => ∃ y,μ y < μ x ∧ Sub (IE y) E' ∧ ID y = D' ∧ ∀ (F : HP) (w : World),Sat w (F :: L') → Sat w (F :: IL y)) Q)) :
    J P N rd (.loop c) E D L Q := by
  intro F a w hr hs
  have key : ∀ (n : Nat) (x : β) (a : Act) (w : World),μ x = n → Rep N (IE x) (ID x) a → Sat w (F :: IL x) →
      ∀ (b : Frame) (k : List Item) (cs : List Frame),b.roundOf = (FW rd).round → (FW rd).fn b.fn → (FW rd).room (cs.length + 1 + 0) →
      ∃ e a' w',lift N F Q e a' w' ∧ ArrivesIn (Machine.fenced P (FW rd)) P (lone (b.atR a (.code c :: .inLoop c :: k)) cs w) b k cs e a' w' := by
    intro n
    induction n using Nat.strongRecOn with
    | _ n ih =>
      intro x a w hn hr hs b k cs hro hb hroom
      obtain ⟨e,a₁,w₁,⟨E',D',L',q,r,s⟩,harr⟩ := round x F a w hr hs b (.inLoop c :: k) cs hro hb hroom
      cases e with
      | normal =>
        obtain ⟨y,hlt,hsub,rfl,hL'⟩ := q
        obtain ⟨e₂,a₂,w₂,hq₂,harr₂⟩ := ih (μ y) (hn ▸ hlt) y a₁ w₁ rfl (r.sub hsub) (hL' F w₁ s) b k cs hro hb hroom
        exact ⟨e₂,a₂,w₂,hq₂,.of_steps (StepsIn.trans harr (.one (fenced_calm hb hroom rfl) stepR_inLoop)) harr₂⟩
      | exit id => exact ⟨_,a₁,w₁,⟨E',D',L',q,r,s⟩,.pass (x := .inLoop c) rfl (fun _ _ => .inl (by simp)) harr⟩
      | goto l => exact ⟨_,a₁,w₁,⟨E',D',L',q,r,s⟩,.pass (x := .inLoop c) rfl (fun _ _ => .inl (by simp)) harr⟩
      | ret => exact ⟨_,a₁,w₁,⟨E',D',L',q,r,s⟩,.pass (x := .inLoop c) rfl (fun _ _ => .inl (by simp)) harr⟩
      | panic ch => exact ⟨_,a₁,w₁,⟨E',D',L',q,r,s⟩,.pass (x := .inLoop c) rfl (fun _ _ => .inl (by simp)) harr⟩
      | outgrown => exact ⟨_,a₁,w₁,⟨E',D',L',q,r,s⟩,.pass (x := .inLoop c) rfl (fun _ _ => .inl (by simp)) harr⟩
  intro b k cs hro hb hroom
  obtain ⟨e,a',w',hq,harr⟩ := key _ x0 a w rfl ⟨hr.1,hD ▸ hr.2.1,(hr.sub hE).2.2⟩ (hL F w hs) b k cs hro hb hroom
  exact ⟨e,a',w',hq,.of_steps (.one (fenced_calm hb hroom rfl) stepR_loop) harr⟩

theorem xQ {c : Code} {L' : List HP} (hL : ∀ (F : HP) (w : World),Sat w (F :: L) → Sat w (F :: L')) (h : J P N rd c E D L' Q) : J P N rd c E D L Q := fun F a w hr hs => h F a w hr (hL F w hs)
theorem wE {c : Code} {φ : Prop} (hL : ∀ (F : HP) (w : World),Sat w (F :: L) → φ) (h : φ → J P N rd c E D L Q) : J P N rd c E D L Q := fun F a w hr hs => h (hL F w hs) F a w hr hs
theorem JL_heap {all : Array Oper} {i : Nat} {rest : List Oper} {L' : List HP} (hL : ∀ (F : HP) (w : World),Sat w (F :: L) → Sat w (F :: L')) (h : JL P N rd all i rest E D L' Q) : JL P N rd all i rest E D L Q :=
  fun F a w hr hs => h F a w hr (hL F w hs)
theorem JL_env {all : Array Oper} {i : Nat} {rest : List Oper} {E' : Env} (hE : Sub E' E) (h : JL P N rd all i rest E' D L Q) : JL P N rd all i rest E D L Q := fun F a w hr hs => h F a w (hr.sub hE) hs
theorem JL_fact {all : Array Oper} {i : Nat} {rest : List Oper} {φ : Prop} (hL : ∀ (F : HP) (w : World),Sat w (F :: L) → φ) (h : φ → JL P N rd all i rest E D L Q) : JL P N rd all i rest E D L Q :=
  fun F a w hr hs => h (hL F w hs) F a w hr hs
theorem zB {id : Nat} {ops : Array Oper} (h : JL P N rd ops 0 ops.toList E D L Q) : J P N rd (.region id ops false) E D L Q := fun F a w hr hs => by
  refine wpIn_region ?_
  have := h F a w hr hs rfl
  rw [List.range_eq_range']
  simpa using this

theorem zE {all : Array Oper} {i : Nat} (h : Q .normal E D L) : JL P N rd all i [] E D L Q := fun _ _ _ hr hs _ => ⟨E,D,L,h,hr,hs⟩

theorem drop_cons {α : Type} {l : List α} {i : Nat} {o : α} {rest : List α} (h : l.drop i = o :: rest) : l[i]? = some o ∧ l.drop (i + 1) = rest := by
  have h1 : l[i]? = some o := by
    have := congrArg (·[0]?) h
    simpa using this
  refine ⟨h1,?_⟩
  have := congrArg List.tail h
  simpa [List.tail_drop] using this

theorem zA {all : Array Oper} {i : Nat} {o : Oper} {rest : List Oper} (hg : o.guard = none)
    (h : JO P N rd o E D L (fun E' D' L' => JL P N rd all (i + 1) rest E' D' L' Q) Q) : JL P N rd all i (o :: rest) E D L Q := by
  intro F a w hr hs hd
  obtain ⟨h1,h2⟩ := drop_cons hd
  simp only [List.length_cons,List.range'_succ,wpOpsIn]
  have h3 : all[i]? = some o := by simpa using h1
  simp only [h3,Region.wanted,hg,if_true]
  exact h F a w hr hs _ fun E' D' L' a' w' hn hr' hs' => hn F a' w' hr' hs' h2

def gval (all : Array Oper) (E : Env) (j : Nat) : Option Bool :=
  match all[j]? with
  | some o => match o.dst with
    | some d => match Env.get E d with | some (.bool b) => some b | _ => none
    | none => none
  | none => none
theorem yielded_of {all : Array Oper} {E : Env} {j : Nat} {b : Bool} {a : Act} (hr : Rep N E D a) (h : gval all E j = some b) : yielded all a.tmps j = some b := by
  unfold gval at h
  split at h
  · rename_i o ho
    split at h
    · rename_i d hd
      split at h
      · rename_i b' hb
        cases h
        have := hr.2.2 d _ hb
        simp [yielded,ho,hd,this]
      · cases h
    · cases h
  · cases h

theorem zZ {all : Array Oper} {i : Nat} {o : Oper} {rest : List Oper} {j : Nat} {want : Bool} (hg : o.guard = some (j,want)) (hv : gval all E j = some want)
    (h : JO P N rd o E D L (fun E' D' L' => JL P N rd all (i + 1) rest E' D' L' Q) Q) : JL P N rd all i (o :: rest) E D L Q := by
  intro F a w hr hs hd
  obtain ⟨h1,h2⟩ := drop_cons hd
  simp only [List.length_cons,List.range'_succ,wpOpsIn]
  have h3 : all[i]? = some o := by simpa using h1
  simp only [h3,Region.wanted,hg,yielded_of hr hv,beq_self_eq_true,if_true]
  exact h F a w hr hs _ fun E' D' L' a' w' hn hr' hs' => hn F a' w' hr' hs' h2

theorem yU {all : Array Oper} {i : Nat} {o : Oper} {rest : List Oper} {j : Nat} {want : Bool} (hg : o.guard = some (j,want)) (hv : gval all E j = some (!want)) (hd : dok N o.dst = true)
    (h : JL P N rd all (i + 1) rest (put E o.dst undef) D L Q) : JL P N rd all i (o :: rest) E D L Q := by
  intro F a w hr hs hdr
  obtain ⟨h1,h2⟩ := drop_cons hdr
  simp only [List.length_cons,List.range'_succ,wpOpsIn]
  have h3 : all[i]? = some o := by simpa using h1
  have h4 : (some (!want) == some want) = false := by cases want <;> rfl
  simp only [h3,Region.wanted,hg,yielded_of hr hv,h4,if_false,Bool.false_eq_true]
  exact ⟨fun f _ => trivial,h F (a.put o.dst undef) w (hr.put hd undef) hs h2⟩

theorem JO_value {o : Oper} {next : Env → List Deferred → List HP → Prop} (hnd : ∀ c,o.op ≠ .defer c) (hd : dok N o.dst = true)
    (h : ∀ (F : HP) (a : Act) (w : World),Rep N E D a → Sat w (F :: L) → ∃ v w' L',(execOp a.eval o).run P w = .ok (.value v) w' ∧ Sat w' (F :: L') ∧ next (put E o.dst v) D L') : JO P N rd o E D L next Q := by
  intro F a w hr hs nx hx
  obtain ⟨v,w',L',h1,h2,h3⟩ := h F a w hr hs
  refine ⟨fun _ _ => trivial,?_⟩
  rw [Oper.semAt_eq _ _ _ hnd,h1]
  exact hx _ _ _ _ _ h3 (hr.put hd v) h2
theorem JO_unit {o : Oper} {next : Env → List Deferred → List HP → Prop} (hnd : ∀ c,o.op ≠ .defer c) (hd : dok N o.dst = true)
    (h : ∀ (F : HP) (a : Act) (w : World),Rep N E D a → Sat w (F :: L) → ∃ w' L',(execOp a.eval o).run P w = .ok .skip w' ∧ Sat w' (F :: L') ∧ next (put E o.dst undef) D L') : JO P N rd o E D L next Q := by
  intro F a w hr hs nx hx
  obtain ⟨w',L',h1,h2,h3⟩ := h F a w hr hs
  refine ⟨fun _ _ => trivial,?_⟩
  rw [Oper.semAt_eq _ _ _ hnd,h1]
  exact hx _ _ _ _ _ h3 (hr.put hd undef) h2
theorem fw_wide (rd : Option Nat) {n : Nat} {f : FuncId} {args : Array Value} {w : World} {R : Ending → World → Prop} (h : Calls P f args w R) : CallsIn (FW rd) n P f args w R := callsIn_wide.2 h

theorem JO_enter {o : Oper} {next : Env → List Deferred → List HP → Prop} {f : FuncId} {args : Array Value} {R : Ending → List HP → Prop} (hnd : ∀ c,o.op ≠ .defer c) (hd : dok N o.dst = true)
    (he : ∀ (a : Act) (w : World),Rep N E D a → (execOp a.eval o).run P w = .ok (.enter f args) w) (hc : Ct P f args L R)
    (hv : ∀ v L',R (.returned v) L' → next (put E o.dst v) D L') (hp : ∀ ch L',R (.panicked ch) L' → Q (.panic ch) E D L') : JO P N rd o E D L next Q := by
  intro F a w hr hs nx hx
  refine ⟨fun _ _ => trivial,?_⟩
  rw [Oper.semAt_eq _ _ _ hnd,he a w hr]
  refine ⟨fun h => by simp [FW,Fence.wide] at h,fw_wide rd ?_⟩
  refine (hc F w hs).mono ?_
  rintro e w' ⟨hne,L',hR,hs'⟩
  cases e with
  | returned v => exact hx _ _ _ _ _ (hv v L' hR) (hr.put hd v) hs'
  | panicked ch => exact ⟨E,D,L',hp ch L' hR,hr,hs'⟩
  | outgrown => exact absurd rfl hne

theorem Ct.mono {f : FuncId} {args : Array Value} {R R' : Ending → List HP → Prop} (h : Ct P f args L R) (hr : ∀ e L',R e L' → R' e L') : Ct P f args L R' :=
  fun F w hs => (h F w hs).mono fun _ _ ⟨hne,L',r,s⟩ => ⟨hne,L',hr _ _ r,s⟩
theorem Ct.frame {f : FuncId} {args : Array Value} {R : Ending → List HP → Prop} (h : Ct P f args L R) (M : List HP) : Ct P f args (L ++ M) fun e L'' => ∃ L',R e L' ∧ L'' = L' ++ M := by
  intro F w hs
  have hs' : Sat w (Star (F :: M) :: L) := by
    refine Sat.fold.1 (hs.perm ?_)
    refine List.Perm.cons F ?_
    exact List.perm_append_comm
  refine (h _ w hs').mono ?_
  rintro e w' ⟨hne,L',hR,hs2⟩
  refine ⟨hne,L' ++ M,⟨L',hR,rfl⟩,?_⟩
  refine (Sat.fold.2 hs2).perm ?_
  exact List.Perm.cons F List.perm_append_comm
theorem Ct.heap {f : FuncId} {args : Array Value} {R : Ending → List HP → Prop} {L' : List HP} (hL : ∀ (F : HP) (w : World),Sat w (F :: L) → Sat w (F :: L')) (h : Ct P f args L' R) : Ct P f args L R :=
  fun F w hs => h F w (hL F w hs)

def argEnv : Nat → List Value → Env
  | _,[] => []
  | i,v :: vs => (i,v) :: argEnv (i + 1) vs
theorem argEnv_get : ∀ (vs : List Value) (i t : Nat) (v : Value),Env.get (argEnv i vs) t = some v → i ≤ t ∧ vs[t - i]? = some v := by
  intro vs
  induction vs with
  | nil => intro i t v e;simp [argEnv,Env.get] at e
  | cons u vs ih =>
    intro i t v e
    simp only [argEnv,get_cons] at e
    by_cases h : i = t
    · subst h;simp at e;subst e;simp
    · simp only [h,if_false] at e
      obtain ⟨h1,h2⟩ := ih (i + 1) t v e
      refine ⟨by omega,?_⟩
      rw [show t - i = (t - (i + 1)) + 1 from by omega]
      simpa using h2
theorem rep_args (vs : List Value) (hN : vs.length ≤ N) : Rep N (argEnv 0 vs) [] { tmps := vs.toArray ++ Array.replicate (N - vs.toArray.size) undef,defers := [] } := by
  refine ⟨by simp;omega,rfl,fun t v e => ?_⟩
  obtain ⟨_,h2⟩ := argEnv_get vs 0 t v e
  simp only [Nat.sub_zero] at h2
  have := List.getElem?_eq_some_iff.1 h2
  obtain ⟨hlt,hv⟩ := this
  simp [Array.getElem?_append,hlt,hv]

def Res (P : Program) (N : Nat) (fn : Func) (E : Env) (L : List HP) (v : Value) : Prop :=
  ∀ (F : HP) (a : Act) (w : World) (D : List Deferred),Rep N E D a → Sat w (F :: L) → (results fn a.tmps).run P w = .ok v w

def bodyQ (P : Program) (N : Nat) (fn : Func) (R : Ending → List HP → Prop) : uF
  | .normal,E,D,L | .ret,E,D,L => D = [] ∧ ∃ v,Res P N fn E L v ∧ R (.returned v) L
  | .panic ch,_,D,L => D = [] ∧ R (.panicked ch) L
  | _,_,_,_ => False

theorem fn_body {f : FuncId} {fn : Func} {c : Code} {vs : List Value} {R : Ending → List HP → Prop} (hf : P.funcs[f]? = some fn) (hb : fn.body = some c) (hn : fn.ntmps = N) (hN : vs.length ≤ N)
    (h : J P N none c (argEnv 0 vs) [] L (bodyQ P N fn R)) : Ct P f vs.toArray L R := by
  intro F w hs
  refine (callsIn_wide (n := 0)).1 (callsIn_of_wp hf hb trivial ?_ rfl)
  have h1 := h F _ w (rep_args vs hN) hs
  rw [hn]
  refine wpIn_mono h1 ?_
  rintro e a w' ⟨E,D,L',q,r,s⟩
  cases e with
  | normal => obtain ⟨hD,v,hv,hR⟩ := q;exact ⟨r.2.1.trans hD,v,hv F a w' D r s,by simp,L',hR,s⟩
  | ret => obtain ⟨hD,v,hv,hR⟩ := q;exact ⟨r.2.1.trans hD,v,hv F a w' D r s,by simp,L',hR,s⟩
  | panic ch => obtain ⟨hD,hR⟩ := q;exact ⟨r.2.1.trans hD,by simp,L',hR,s⟩
  | exit id => exact q.elim
  | goto l => exact q.elim
  | outgrown => exact q.elim

theorem res_none {fn : Func} (h : fn.results = #[]) : Res P N fn E L (.tuple #[]) := fun _ a w _ _ _ => by simp [results,h]
theorem res_one {fn : Func} {t : Nat} {v : Value} (h : fn.results = #[.tmp t]) (hv : Env.get E t = some v) : Res P N fn E L v := fun _ a w _ hr _ => by
  have h1 : (a.tmps.getD t undef) = v := hr.eval (x := .tmp t) hv
  simp [results,h,← h1]
theorem res_two {fn : Func} {t u : Nat} {v x : Value} (h : fn.results = #[.tmp t,.tmp u]) (hv : Env.get E t = some v) (hx : Env.get E u = some x) : Res P N fn E L (.tuple #[v,x]) := fun _ a w _ hr _ => by
  have h1 : (a.tmps.getD t undef) = v := hr.eval (x := .tmp t) hv
  have h2 : (a.tmps.getD u undef) = x := hr.eval (x := .tmp u) hx
  simp [results,h,← h1,← h2]
end
end Go.Sp

/- The rules of operations: numbers,tests,variables,fields,calls. Types and functions of a program are told by instances. -/
namespace Go.Sp
open Go.RowKit

class TU (P : Program) (t : TypeId) (d : outParam TypeDesc) : Prop where h : P.underlying t = some d
class TI (P : Program) (t : TypeId) (z : outParam Value) (n b : outParam Nat) : Prop where h : ∃ i,P.info? t = some i ∧ i.zero = some z ∧ i.size = n ∧ i.bytes = b
class TF (P : Program) (s f : Nat) (off ty n : outParam Nat) : Prop where h : ∃ fs g,P.underlying s = some (.struct fs) ∧ fs[f]? = some g ∧ g.offset = off ∧ g.type = ty ∧ (∃ i,P.info? ty = some i ∧ i.size = n) ∧ n ≠ 0
class CF (P : Program) (f : FuncId) : Prop where h : ∀ (args : Array Value) (w : World),(callFunc f args).run P w = .ok (.enter f args) w
class T1 (P : Program) (t : TypeId) : Prop where h : ∃ d,P.underlying t = some d ∧ (∀ fs,d ≠ .struct fs) ∧ (∀ n e,d ≠ .array n e)
class TA (P : Program) (t : TypeId) (n : outParam Nat) : Prop where h : (∃ d,P.underlying t = some d ∧ ((∃ fs,d = .struct fs) ∨ ∃ k e,d = .array k e)) ∧ ∃ i,P.info? t = some i ∧ i.size = n

def fieldFact (P : Program) (s f : Nat) : Option (Nat × Nat × Nat) :=
  match P.underlying s with
  | some (.struct fs) => match fs[f]? with
    | some g => (P.info? g.type).map fun i => (g.offset,g.type,i.size)
    | none => none
  | _ => none
def isOne (P : Program) (t : TypeId) : Bool := match P.underlying t with | some (.struct _) | some (.array _ _) | none => false | some _ => true
def aggFact (P : Program) (t : TypeId) : Option Nat := match P.underlying t with | some (.struct _) | some (.array _ _) => (P.info? t).map (·.size) | _ => none
def structFields (P : Program) (t : TypeId) : Array Field := match P.underlying t with | some (.struct fs) => fs | _ => #[]
theorem TI.mk' {P : Program} {t : TypeId} {z : Value} {n b : Nat} (h : (P.info? t).map (fun i => (i.zero,i.size,i.bytes)) = some (some z,n,b)) : TI P t z n b := ⟨by
  cases hi : P.info? t with
  | none => rw [hi] at h;cases h
  | some i => rw [hi] at h;simp at h;exact ⟨i,rfl,h.1,h.2.1,h.2.2⟩⟩
theorem TF.mk' {P : Program} {s f off ty n : Nat} (h : fieldFact P s f = some (off,ty,n)) (hn : (n == 0) = false) : TF P s f off ty n := ⟨by
  unfold fieldFact at h
  split at h
  · rename_i fs hfs
    split at h
    · rename_i g hg
      cases hi : P.info? g.type with
      | none => rw [hi] at h;cases h
      | some i =>
        rw [hi] at h
        simp at h
        obtain ⟨rfl,rfl,rfl⟩ := h
        exact ⟨fs,g,hfs,hg,rfl,rfl,⟨i,hi,rfl⟩,by simpa using hn⟩
    · cases h
  · cases h⟩
theorem T1.mk' {P : Program} {t : TypeId} (h : isOne P t = true) : T1 P t := ⟨by
  unfold isOne at h
  split at h
  · cases h
  · cases h
  · cases h
  · rename_i d h1 h2 hd
    exact ⟨d,hd,fun fs e => h1 fs e,fun n e k => h2 n e k⟩⟩
theorem TA.mk' {P : Program} {t : TypeId} {n : Nat} (h : aggFact P t = some n) : TA P t n := ⟨by
  unfold aggFact at h
  split at h
  · rename_i fs hfs
    cases hi : P.info? t with
    | none => rw [hi] at h;cases h
    | some i => rw [hi] at h;simp at h;exact ⟨⟨_,hfs,.inl ⟨_,rfl⟩⟩,i,rfl,h⟩
  · rename_i k e hfs
    cases hi : P.info? t with
    | none => rw [hi] at h;cases h
    | some i => rw [hi] at h;simp at h;exact ⟨⟨_,hfs,.inr ⟨_,_,rfl⟩⟩,i,rfl,h⟩
  · cases h⟩
theorem CF.mk' {P : Program} {f : FuncId} {fn : Func} (hf : P.funcs[f]? = some fn) (hname : (fn.name == "runtime.NumGoroutine") = false) (hb : fn.body.isNone = false) : CF P f := ⟨fun args w => by
  have h1 : fn.name ≠ "runtime.NumGoroutine" := by simpa using hname
  cases hbd : fn.body with
  | none => simp [hbd] at hb
  | some c => simp [callFunc,hf,h1,hbd]⟩

theorem yM {P : Program} {t : TypeId} {d : TypeDesc} (h : P.underlying t = some d) (w : World) : (underlying t).run P w = .ok d w := by simp [underlying,h]
theorem run_typeInfo' {P : Program} {t : TypeId} {i : TypeInfo} (h : P.info? t = some i) (w : World) : (typeInfo t).run P w = .ok i w := by simp [typeInfo,h]
theorem vK {P : Program} {t : TypeId} {i : TypeInfo} (h : P.info? t = some i) (w : World) : (sizeOf t).run P w = .ok i.size w := by simp [sizeOf,run_typeInfo' h]
theorem run_zeroValue' {P : Program} {t : TypeId} {i : TypeInfo} {z : Value} (h : P.info? t = some i) (hz : i.zero = some z) (w : World) : (zeroValue t).run P w = .ok z w := by simp [zeroValue,run_typeInfo' h,hz]
theorem run_isAgg1 {P : Program} {t : TypeId} [T1 P t] (w : World) : (isAgg t).run P w = .ok false w := by
  obtain ⟨d,hd,h1,h2⟩ := T1.h (P := P) (t := t)
  cases d <;> simp_all [isAgg,underlying]
theorem run_isAggA {P : Program} {t : TypeId} {n : Nat} [TA P t n] (w : World) : (isAgg t).run P w = .ok true w := by
  obtain ⟨⟨d,hd,h⟩,_⟩ := TA.h (P := P) (t := t) (n := n)
  rcases h with ⟨fs,rfl⟩ | ⟨k,e,rfl⟩ <;> simp [isAgg,underlying,hd]

section
variable {P : Program} {N : Nat} {rd : Option Nat} {E : Env} {D : List Deferred} {L : List HP} {Q : uF} {next : Env → List Deferred → List HP → Prop}
variable {d : Option Nat} {ty : TypeId} {pos : String} {after : Array Edge} {g : Option (Nat × Bool)}

theorem JO_pure {o : Oper} (v : Value) (hnd : ∀ c,o.op ≠ .defer c) (hd : dok N o.dst = true) (h : ∀ (a : Act) (w : World),Rep N E D a → (execOp a.eval o).run P w = .ok (.value v) w)
    (hn : next (put E o.dst v) D L) : JO P N rd o E D L next Q :=
  JO_value hnd hd fun _ a w hr hs => ⟨v,w,L,h a w hr,hs,hn⟩

theorem JL_split {all : Array Oper} {i : Nat} {rest : List Oper} (t : Nat) {b : Bool} (hb : Env.get E t = some (.bool b))
    (h1 : b = true → JL P N rd all i rest ((t,.bool true) :: E) D L Q) (h2 : b = false → JL P N rd all i rest ((t,.bool false) :: E) D L Q) : JL P N rd all i rest E D L Q := by
  cases b with
  | true => exact JL_env (zI hb (Sub.refl E)) (h1 rfl)
  | false => exact JL_env (zI hb (Sub.refl E)) (h2 rfl)
theorem JL_splitP {all : Array Oper} {i : Nat} {rest : List Oper} (t : Nat) {p : Prop} {_ : Decidable p} (hb : Env.get E t = some (.bool (decide p)))
    (h1 : p → JL P N rd all i rest ((t,.bool true) :: E) D L Q) (h2 : ¬ p → JL P N rd all i rest ((t,.bool false) :: E) D L Q) : JL P N rd all i rest E D L Q :=
  JL_split t hb (fun h => h1 (of_decide_eq_true h)) (fun h => h2 (of_decide_eq_false h))

theorem zD {x : Operand} {v : Value} (hx : ev E x = some v) (hd : dok N d = true) (h : next (put E d v) D L) : JO P N rd ⟨d,.move x,ty,pos,after,g⟩ E D L next Q :=
  JO_pure v (fun c => by simp) hd (fun a w hr => by simp [execOp,hr.eval hx]) h
theorem zC {x : Operand} {v : Value} (hx : ev E x = some v) (hd : dok N d = true) (h : next (put E d v) D L) : JO P N rd ⟨d,.assign x,ty,pos,after,g⟩ E D L next Q :=
  JO_pure v (fun c => by simp) hd (fun a w hr => by simp [execOp,hr.eval hx]) h
theorem yA {c x y : Operand} {v : Value} (hc : ev E c = some (.bool true)) (hx : ev E x = some v) (hd : dok N d = true) (h : next (put E d v) D L) : JO P N rd ⟨d,.pick c x y,ty,pos,after,g⟩ E D L next Q :=
  JO_pure v (fun c => by simp) hd (fun a w hr => by simp [execOp,hr.eval hc,hr.eval hx,asBool]) h
theorem yJ {c x y : Operand} {v : Value} (hc : ev E c = some (.bool false)) (hx : ev E y = some v) (hd : dok N d = true) (h : next (put E d v) D L) : JO P N rd ⟨d,.pick c x y,ty,pos,after,g⟩ E D L next Q :=
  JO_pure v (fun c => by simp) hd (fun a w hr => by simp [execOp,hr.eval hc,hr.eval hx,asBool]) h
theorem xD {x : Operand} {t : TypeId} {b : Bool} (hx : ev E x = some (.bool b)) (hd : dok N d = true) (h : next (put E d (.bool (!b))) D L) : JO P N rd ⟨d,.unOp .not t x,ty,pos,after,g⟩ E D L next Q :=
  JO_pure _ (fun c => by simp) hd (fun a w hr => by simp [execOp,hr.eval hx,Op.unary]) h
def lget : List Value → Nat → Option Value
  | [],_ => none
  | v :: _,0 => some v
  | _ :: l,i + 1 => lget l i
theorem lget_eq : ∀ (l : List Value) (i : Nat),lget l i = l[i]?
  | [],_ => by simp [lget]
  | _ :: _,0 => rfl
  | _ :: l,i + 1 => by simp [lget,lget_eq l i]
theorem zT {x : Operand} {vs : List Value} {k : Nat} {v : Value} (hx : ev E x = some (.tuple vs.toArray)) (hk : lget vs k = some v) (hd : dok N d = true) (h : next (put E d v) D L) : JO P N rd ⟨d,.extract x k,ty,pos,after,g⟩ E D L next Q :=
  JO_pure v (fun c => by simp) hd (fun a w hr => by rw [lget_eq] at hk;simp [execOp,hr.eval hx,Instr.extract,hk]) h

theorem wrap_in {z : Int} (h : -9223372036854775808 ≤ z ∧ z ≤ 9223372036854775807) : IntKind.i64.wrap z = z := by
  rw [IntKind.wrap_i64];omega
section ints
variable {x y : Operand} {m n : Int} {t u : TypeId} {k : IntKind}
theorem JO_addW (hx : ev E x = some (.int k m)) (hy : ev E y = some (.int k n)) (hd : dok N d = true) (h : next (put E d (.int k (k.wrap (m + n)))) D L) : JO P N rd ⟨d,.binOp .add t x y u,ty,pos,after,g⟩ E D L next Q :=
  JO_pure _ (fun c => by simp) hd (fun a w hr => by simp [execOp,hr.eval hx,hr.eval hy,eqGuard,binOp,Op.intArith]) h
theorem JO_subW (hx : ev E x = some (.int k m)) (hy : ev E y = some (.int k n)) (hd : dok N d = true) (h : next (put E d (.int k (k.wrap (m - n)))) D L) : JO P N rd ⟨d,.binOp .sub t x y u,ty,pos,after,g⟩ E D L next Q :=
  JO_pure _ (fun c => by simp) hd (fun a w hr => by simp [execOp,hr.eval hx,hr.eval hy,eqGuard,binOp,Op.intArith]) h
theorem JO_add (hx : ev E x = some (.int .i64 m)) (hy : ev E y = some (.int .i64 n)) (hb : -9223372036854775808 ≤ m + n ∧ m + n ≤ 9223372036854775807) (hd : dok N d = true) (h : next (put E d (.int .i64 (m + n))) D L) :
    JO P N rd ⟨d,.binOp .add t x y u,ty,pos,after,g⟩ E D L next Q := JO_addW hx hy hd (by rw [wrap_in hb];exact h)
theorem JO_sub (hx : ev E x = some (.int .i64 m)) (hy : ev E y = some (.int .i64 n)) (hb : -9223372036854775808 ≤ m - n ∧ m - n ≤ 9223372036854775807) (hd : dok N d = true) (h : next (put E d (.int .i64 (m - n))) D L) :
    JO P N rd ⟨d,.binOp .sub t x y u,ty,pos,after,g⟩ E D L next Q := JO_subW hx hy hd (by rw [wrap_in hb];exact h)
theorem yZ {a b : Nat} (hx : ev E x = some (.int .i64 (a : Int))) (hy : ev E y = some (.int .i64 (b : Int))) (hb : a + b ≤ 9223372036854775807) (hd : dok N d = true) (h : next (put E d (.int .i64 ((a + b : Nat) : Int))) D L) :
    JO P N rd ⟨d,.binOp .add t x y u,ty,pos,after,g⟩ E D L next Q := JO_add hx hy (by omega) hd (by rw [show ((a : Int) + (b : Int)) = ((a + b : Nat) : Int) from by omega];exact h)
theorem JO_lss (hx : ev E x = some (.int k m)) (hy : ev E y = some (.int k n)) (hd : dok N d = true) (h : next (put E d (.bool (decide (m < n)))) D L) : JO P N rd ⟨d,.binOp .lss t x y u,ty,pos,after,g⟩ E D L next Q :=
  JO_pure _ (fun c => by simp) hd (fun a w hr => by simp [execOp,hr.eval hx,hr.eval hy,eqGuard,binOp,Op.intCmp]) h
theorem JO_leq (hx : ev E x = some (.int k m)) (hy : ev E y = some (.int k n)) (hd : dok N d = true) (h : next (put E d (.bool (decide (m ≤ n)))) D L) : JO P N rd ⟨d,.binOp .leq t x y u,ty,pos,after,g⟩ E D L next Q :=
  JO_pure _ (fun c => by simp) hd (fun a w hr => by simp [execOp,hr.eval hx,hr.eval hy,eqGuard,binOp,Op.intCmp]) h
theorem JO_gtr (hx : ev E x = some (.int k m)) (hy : ev E y = some (.int k n)) (hd : dok N d = true) (h : next (put E d (.bool (decide (n < m)))) D L) : JO P N rd ⟨d,.binOp .gtr t x y u,ty,pos,after,g⟩ E D L next Q :=
  JO_pure _ (fun c => by simp) hd (fun a w hr => by simp [execOp,hr.eval hx,hr.eval hy,eqGuard,binOp,Op.intCmp]) h
theorem JO_geq (hx : ev E x = some (.int k m)) (hy : ev E y = some (.int k n)) (hd : dok N d = true) (h : next (put E d (.bool (decide (n ≤ m)))) D L) : JO P N rd ⟨d,.binOp .geq t x y u,ty,pos,after,g⟩ E D L next Q :=
  JO_pure _ (fun c => by simp) hd (fun a w hr => by simp [execOp,hr.eval hx,hr.eval hy,eqGuard,binOp,Op.intCmp]) h
theorem JO_eqI (hx : ev E x = some (.int k m)) (hy : ev E y = some (.int k n)) (hd : dok N d = true) (h : next (put E d (.bool (decide (m = n)))) D L) : JO P N rd ⟨d,.binOp .eql t x y u,ty,pos,after,g⟩ E D L next Q :=
  JO_pure _ (fun c => by simp) hd (fun a w hr => by simp [execOp,hr.eval hx,hr.eval hy,eqGuard,binOp,Op.intCmp];rfl) h
theorem JO_neI (hx : ev E x = some (.int k m)) (hy : ev E y = some (.int k n)) (hd : dok N d = true) (h : next (put E d (.bool (decide (m ≠ n)))) D L) : JO P N rd ⟨d,.binOp .neq t x y u,ty,pos,after,g⟩ E D L next Q :=
  JO_pure _ (fun c => by simp) hd (fun a w hr => by
    have : (m != n) = decide (m ≠ n) := by by_cases h : m = n <;> simp [h]
    simp [execOp,hr.eval hx,hr.eval hy,eqGuard,binOp,Op.intCmp,this]) h
end ints

theorem yF {x : Operand} {t e : TypeId} [TU P t (.slice e)] {p : Option Addr} {n c : Nat} (hx : ev E x = some (.slice p n c)) (hd : dok N d = true) (h : next (put E d (.int .i64 (n : Int))) D L) :
    JO P N rd ⟨d,.call ⟨.builtin .len,#[x],#[t]⟩,ty,pos,after,g⟩ E D L next Q :=
  JO_pure _ (fun c => by simp) hd (fun a w hr => by simp [execOp,resolve,invoke,builtin,Builtin.len_,hr.eval hx,yM TU.h,goInt]) h
theorem JO_lenS {x : Operand} {t : TypeId} [TU P t .string] {s : ByteArray} (hx : ev E x = some (.string s)) (hd : dok N d = true) (h : next (put E d (.int .i64 (s.size : Int))) D L) :
    JO P N rd ⟨d,.call ⟨.builtin .len,#[x],#[t]⟩,ty,pos,after,g⟩ E D L next Q :=
  JO_pure _ (fun c => by simp) hd (fun a w hr => by simp [execOp,resolve,invoke,builtin,Builtin.len_,hr.eval hx,yM TU.h,goInt]) h
theorem JO_max {x y : Operand} {ts : Array TypeId} {k : IntKind} {m n : Int} (hx : ev E x = some (.int k m)) (hy : ev E y = some (.int k n)) (hd : dok N d = true) (h : next (put E d (.int k (max m n))) D L) :
    JO P N rd ⟨d,.call ⟨.builtin .max,#[x,y],ts⟩,ty,pos,after,g⟩ E D L next Q :=
  JO_pure _ (fun c => by simp) hd (fun a w hr => by
    have h1 : (if m < n then n else m) = max m n := by omega
    simp [execOp,resolve,invoke,builtin,hr.eval hx,hr.eval hy,run_max_int2,h1]) h

theorem wP {fn : Fn} {first captured : Array Operand} {vs us : List Value} (h1 : evs E first.toList = some vs) (h2 : evs E captured.toList = some us) (hd : dok N d = true)
    (h : next (put E d (.func fn vs.toArray us.toArray)) D L) : JO P N rd ⟨d,.makeFunc fn first captured,ty,pos,after,g⟩ E D L next Q :=
  JO_pure _ (fun c => by simp) hd (fun a w hr => by
    have e1 := hr.evals h1
    have e2 := hr.evals h2
    have e1' : first.map a.eval = vs.toArray := by rw [← e1];apply Array.ext';simp
    have e2' : captured.map a.eval = us.toArray := by rw [← e2];apply Array.ext';simp
    simp [execOp,Instr.makeFunc,e1',e2']) h
theorem vD {t : TypeId} {x : Operand} {dd : TypeDesc} [TU P t dd] {v : Value} (hni : ∀ ms,dd ≠ .interface ms) (hx : ev E x = some v) (hd : dok N d = true) (h : next (put E d (.iface t v)) D L) :
    JO P N rd ⟨d,.makeInterface t x,ty,pos,after,g⟩ E D L next Q :=
  JO_pure _ (fun c => by simp) hd (fun a w hr => by
    have := yM (TU.h (P := P) (t := t) (d := dd)) w
    cases dd <;> simp_all [execOp,Instr.makeInterface,hr.eval hx]) h

theorem JO_alloc {t : TypeId} {z : Value} {n b : Nat} [TI P t z n b] (hd : dok N d = true) (h : ∀ r,next (put E d (.pointer (some ⟨r,0,none⟩))) D (pt r (.cells z.cells t (0,0)) :: L)) :
    JO P N rd ⟨d,.alloc t,ty,pos,after,g⟩ E D L next Q :=
  JO_value (fun c => by simp) hd fun F a w hr hs => by
    obtain ⟨i,h1,h2,h3,h4⟩ := TI.h (P := P) (t := t) (z := z) (n := n) (b := b)
    exact ⟨_,_,_,by simp [execOp,Instr.alloc,run_zeroValue' h1 h2,newVar,newRow],(hs.new _).swap,h _⟩
theorem zS {t : TypeId} {cs : Array Value} {n b : Nat} [TI P t (.agg cs) n b] (hd : dok N d = true) (h : ∀ r,next (put E d (.pointer (some ⟨r,0,none⟩))) D (pt r (.cells cs t (0,0)) :: L)) :
    JO P N rd ⟨d,.alloc t,ty,pos,after,g⟩ E D L next Q := JO_alloc (z := .agg cs) hd h
theorem tL {t : TypeId} {z : Value} {n b : Nat} [TI P t z n b] (hz : z.cells = #[z]) (hd : dok N d = true) (h : ∀ r,next (put E d (.pointer (some ⟨r,0,none⟩))) D (pt r (.cells #[z] t (0,0)) :: L)) :
    JO P N rd ⟨d,.alloc t,ty,pos,after,g⟩ E D L next Q := JO_alloc hd fun r => by rw [hz];exact h r
theorem JO_box {t : TypeId} {x : Operand} {v : Value} (hx : ev E x = some v) (hd : dok N d = true) (h : ∀ r,next (put E d (.pointer (some ⟨r,0,none⟩))) D (pt r (.cells v.cells t (0,0)) :: L)) :
    JO P N rd ⟨d,.box t x,ty,pos,after,g⟩ E D L next Q :=
  JO_value (fun c => by simp) hd fun F a w hr hs => by
    exact ⟨_,_,_,by simp [execOp,Instr.box,hr.eval hx,newVar,newRow],(hs.new _).swap,h _⟩
theorem yN {t : TypeId} {x : Operand} {cs : Array Value} (hx : ev E x = some (.agg cs)) (hd : dok N d = true) (h : ∀ r,next (put E d (.pointer (some ⟨r,0,none⟩))) D (pt r (.cells cs t (0,0)) :: L)) :
    JO P N rd ⟨d,.box t x,ty,pos,after,g⟩ E D L next Q := JO_box hx hd h
theorem JO_box1 {t : TypeId} {x : Operand} {v : Value} (hx : ev E x = some v) (hv : v.cells = #[v]) (hd : dok N d = true) (h : ∀ r,next (put E d (.pointer (some ⟨r,0,none⟩))) D (pt r (.cells #[v] t (0,0)) :: L)) :
    JO P N rd ⟨d,.box t x,ty,pos,after,g⟩ E D L next Q := JO_box hx hd fun r => by rw [hv];exact h r

class HB (L : List HP) (b : Nat) (o : outParam Obj) : Prop where h : ∀ (F : HP) (w : World),Sat w (F :: L) → w.heap[b]? = some o
instance hb_pt (b : Nat) (o : Obj) (L : List HP) : HB (pt b o :: L) b o := ⟨fun _ _ hs => hs.tail.pt_heap⟩
instance hb_ro (b : Nat) (o : Obj) (L : List HP) : HB (ro b o :: L) b o := ⟨fun _ _ hs => hs.tail.ro_heap⟩
instance (priority := low) hb_tail (A : HP) (b : Nat) (o : Obj) (L : List HP) [h : HB L b o] : HB (A :: L) b o := ⟨fun _ _ hs => h.h A _ hs.tail⟩
class WB (L : List HP) (b : Nat) (o : outParam Obj) (L' : outParam (Obj → List HP)) : Prop where h : ∀ (F : HP) (w : World),Sat w (F :: L) → w.heap[b]? = some o ∧ ∀ o',Sat (setObj w b o') (F :: L' o')
instance wb_pt (b : Nat) (o : Obj) (L : List HP) : WB (pt b o :: L) b o (fun o' => pt b o' :: L) := ⟨fun _ _ hs => ⟨hs.tail.pt_heap,fun o' => (hs.swap.set_pt o').swap⟩⟩
instance (priority := low) wb_tail (A : HP) (b : Nat) (o : Obj) (L : List HP) (L' : Obj → List HP) [h : WB L b o L'] : WB (A :: L) b o (fun o' => A :: L' o') := ⟨fun F w hs => by
  have h1 : Sat w (Star [F,A] :: L) := (Sat.fold (L1 := [F,A])).1 hs
  obtain ⟨h2,h3⟩ := h.h _ w h1
  exact ⟨h2,fun o' => (Sat.fold (L1 := [F,A])).2 (h3 o')⟩⟩

class SetAt (l : List Value) (i : Nat) (v : Value) (l' : outParam (List Value)) : Prop where h : l.set i v = l' ∧ i < l.length
instance setAt_zero (a v : Value) (l : List Value) : SetAt (a :: l) 0 v (v :: l) := ⟨rfl,by simp⟩
instance setAt_succ (a v : Value) (l l' : List Value) (i : Nat) [h : SetAt l i v l'] : SetAt (a :: l) (i + 1) v (a :: l') := ⟨by simp [h.h.1],by simpa using h.h.2⟩
class GetAt (l : List Value) (i : Nat) (v : outParam Value) : Prop where h : l[i]? = some v
instance getAt_zero (a : Value) (l : List Value) : GetAt (a :: l) 0 a := ⟨rfl⟩
instance getAt_succ (a v : Value) (l : List Value) (i : Nat) [h : GetAt l i v] : GetAt (a :: l) (i + 1) v := ⟨by simpa using h.h⟩

theorem cell_of {w : World} {b off : Nat} {cs : List Value} {t : TypeId} {fz : Nat × Nat} {v : Value} (h : w.heap[b]? = some (.cells cs.toArray t fz)) (hv : cs[off]? = some v) : w.cell? ⟨b,off,none⟩ = some v := by
  simp [World.cell?,h,hv]

def Lds (L : List HP) (a : Addr) (v : Value) : Prop := ∀ (F : HP) (w : World),Sat w (F :: L) → w.cell? a = some v
theorem wB {b off : Nat} {cs : List Value} {t : TypeId} {fz : Nat × Nat} {v : Value} [h : HB L b (.cells cs.toArray t fz)] (hv : cs[off]? = some v) : Lds L ⟨b,off,none⟩ v := fun F w hs => cell_of (h.h F w hs) hv

theorem wU {t : TypeId} [T1 P t] {x : Operand} {p : Addr} {v : Value} (hx : ev E x = some (.pointer (some p))) (hl : Lds L p v) (hd : dok N d = true) (h : next (put E d v) D L) :
    JO P N rd ⟨d,.load t x,ty,pos,after,g⟩ E D L next Q :=
  JO_value (fun c => by simp) hd fun F a w hr hs => ⟨v,w,L,by simp [execOp,Instr.loadAt,Instr.sureAddr,hr.eval hx,loadVar,run_isAgg1 (P := P) (t := t),hl F w hs],hs,h⟩
theorem zH {t : TypeId} [T1 P t] {x : Operand} {b off : Nat} {cs : List Value} {bt : TypeId} {fz : Nat × Nat} {v : Value} (hx : ev E x = some (.pointer (some ⟨b,off,none⟩))) [HB L b (.cells cs.toArray bt fz)] [hg : GetAt cs off v]
    (hd : dok N d = true) (h : next (put E d v) D L) : JO P N rd ⟨d,.load t x,ty,pos,after,g⟩ E D L next Q := wU hx (wB hg.h) hd h

theorem run_loadCells_block {w : World} {b off n : Nat} {cs : List Value} {t : TypeId} {fz : Nat × Nat} (h : w.heap[b]? = some (.cells cs.toArray t fz)) (hn : off + n ≤ cs.length) :
    (loadCells ⟨b,off,none⟩ n).run P w = .ok ((cs.drop off).take n).toArray w := by
  have := run_loadCells_list (P := P) (w := w) ⟨b,off,none⟩ ((cs.drop off).take n) (fun j v hj => by
    have hj' : cs[off + j]? = some v ∧ j < n := by
      rw [List.getElem?_take] at hj
      split at hj
      · rename_i hlt;exact ⟨by simpa using hj,hlt⟩
      · cases hj
    have : (⟨b,off,none⟩ : Addr).add j = ⟨b,off + j,none⟩ := by unfold Addr.add;split <;> simp_all
    rw [this]
    exact cell_of h hj'.1)
  have hlen : ((cs.drop off).take n).length = n := by simp;omega
  rw [hlen] at this
  exact this

theorem xI {t n : TypeId} [TA P t n] {x : Operand} {b off : Nat} {cs : List Value} {bt : TypeId} {fz : Nat × Nat} (hx : ev E x = some (.pointer (some ⟨b,off,none⟩))) [hb : HB L b (.cells cs.toArray bt fz)] (hn : off + n ≤ cs.length)
    (hd : dok N d = true) (h : next (put E d (.agg ((cs.drop off).take n).toArray)) D L) : JO P N rd ⟨d,.load t x,ty,pos,after,g⟩ E D L next Q :=
  JO_value (fun c => by simp) hd fun F a w hr hs => ⟨_,w,L,by
    obtain ⟨_,i,hi,hsz⟩ := TA.h (P := P) (t := t) (n := n)
    simp [execOp,Instr.loadAt,Instr.sureAddr,hr.eval hx,loadVar,run_isAggA (P := P) (t := t) (n := n),vK hi,hsz,run_loadCells_block (hb.h F w hs) hn],hs,h⟩
theorem zU {t n : TypeId} [TA P t n] {x : Operand} {b : Nat} {cs : List Value} {bt : TypeId} {fz : Nat × Nat} (hx : ev E x = some (.pointer (some ⟨b,0,none⟩))) [hb : HB L b (.cells cs.toArray bt fz)] (hn : cs.length = n)
    (hd : dok N d = true) (h : next (put E d (.agg cs.toArray)) D L) : JO P N rd ⟨d,.load t x,ty,pos,after,g⟩ E D L next Q :=
  xI hx (by omega) hd (by rw [List.drop_zero,List.take_of_length_le (by omega)];exact h)

theorem setCell_setObj {w : World} {b off : Nat} {cs : List Value} {t : TypeId} {fz : Nat × Nat} (h : w.heap[b]? = some (.cells cs.toArray t fz)) (v : Value) :
    w.setCell ⟨b,off,none⟩ v = setObj w b (.cells (cs.set off v).toArray t fz) := by
  unfold World.setCell setObj
  congr 1
  apply Array.ext_getElem?
  intro i
  obtain ⟨h3,h4⟩ := Array.getElem?_eq_some_iff.1 h
  by_cases hi : i = b
  · subst hi
    rw [Array.getElem?_modify,if_pos rfl,h,Array.getElem?_setIfInBounds_self_of_lt h3]
    simp
  · simp [Array.getElem?_modify,Ne.symm hi]

theorem run_storeCell {w : World} {b off : Nat} {cs : List Value} {t : TypeId} {v u : Value} (h : w.heap[b]? = some (.cells cs.toArray t (0,0))) (hu : cs[off]? = some u) (hv : v.oneCell' = true) :
    (store ⟨b,off,none⟩ v).run P w = .ok () (setObj w b (.cells (cs.set off v).toArray t (0,0))) := by
  rw [run_store _ _ _ _ _ hv,cell_of h hu]
  have : w.frozen? ⟨b,off,none⟩ = false := by simp [World.frozen?,h]
  simp [this,setCell_setObj h]

theorem zW {t : TypeId} {z : Value} {k : Nat} [TI P t z 1 k] {x y : Operand} {b off : Nat} {cs cs' : List Value} {bt : TypeId} {v : Value} {L' : Obj → List HP} (hx : ev E x = some (.pointer (some ⟨b,off,none⟩))) (hy : ev E y = some v)
    [hb : WB L b (.cells cs.toArray bt (0,0)) L'] [hs : SetAt cs off v cs'] (hv : v.oneCell' = true) (hd : dok N d = true) (h : next (put E d undef) D (L' (.cells cs'.toArray bt (0,0)))) : JO P N rd ⟨d,.store t x y,ty,pos,after,g⟩ E D L next Q :=
  JO_unit (fun c => by simp) hd fun F a w hr hs' => by
    obtain ⟨i,h1,h2,h3,h4⟩ := TI.h (P := P) (t := t) (z := z) (n := 1) (b := k)
    obtain ⟨hb1,hb2⟩ := hb.h F w hs'
    obtain ⟨e1,e2⟩ := hs.h
    have hc : v.cells = #[v] := by cases v <;> first | rfl | simp [Value.oneCell'] at hv
    have hst := run_storeCell (P := P) hb1 (List.getElem?_eq_getElem e2) hv
    rw [e1] at hst
    refine ⟨_,_,?_,hb2 _,h⟩
    simp [execOp,Instr.storeAt,Instr.sureAddr,hr.eval hx,hr.eval hy,storeVar,hc,vK h1,h3,storeCells,Addr.add,hst]

theorem run_storeCells_all {t : TypeId} {b : Nat} : ∀ (vs pre post : List Value) (w : World),(∀ v ∈ vs,v.oneCell' = true) → ∀ old : List Value,old.length = vs.length → w.heap[b]? = some (.cells (pre ++ old ++ post).toArray t (0,0)) →
    (storeCells ⟨b,0,none⟩ vs pre.length).run P w = .ok () (setObj w b (.cells (pre ++ vs ++ post).toArray t (0,0))) := by
  intro vs
  induction vs with
  | nil =>
    intro pre post w _ old ho hb
    have : old = [] := by simpa using ho
    subst this
    simp only [storeCells,Sem.run_pure,setObj]
    congr 1
    have : w.heap.setIfInBounds b (.cells (pre ++ [] ++ post).toArray t (0,0)) = w.heap := by
      apply Array.ext_getElem?
      intro i
      by_cases hi : i = b
      · subst hi;obtain ⟨h2,h3⟩ := Array.getElem?_eq_some_iff.1 hb;simp only [List.append_nil] at h3;simp [h2,h3]
      · simp [Ne.symm hi]
    rw [this]
  | cons v vs ih =>
    intro pre post w hv old ho hb
    obtain ⟨o,old,rfl⟩ : ∃ o l,old = o :: l := by cases old with | nil => simp at ho | cons o l => exact ⟨o,l,rfl⟩
    have hadd : (⟨b,0,none⟩ : Addr).add pre.length = ⟨b,pre.length,none⟩ := by unfold Addr.add;split <;> simp_all
    have hst := run_storeCell (P := P) (w := w) (v := v) (off := pre.length) (u := o) hb (by simp) (hv v (by simp))
    have hset : (pre ++ o :: old ++ post).set pre.length v = (pre ++ [v]) ++ old ++ post := by simp
    rw [hset] at hst
    have hb' : (setObj w b (.cells ((pre ++ [v]) ++ old ++ post).toArray t (0,0))).heap[b]? = some (.cells ((pre ++ [v]) ++ old ++ post).toArray t (0,0)) := by
      have h2 := Array.getElem?_eq_some_iff.1 hb;simp [setObj,h2.1]
    have := ih (pre ++ [v]) post _ (fun u hu => hv u (by simp [hu])) old (by simpa using ho) hb'
    simp only [storeCells,hadd,Sem.run_bind,hst,Result.andThen_ok]
    simp only [List.length_append,List.length_singleton] at this
    rw [this]
    simp [setObj]
theorem zO {t : TypeId} {z : Value} {n k : Nat} [TI P t z n k] {x y : Operand} {b : Nat} {cs vs : List Value} {bt : TypeId} {L' : Obj → List HP} (hx : ev E x = some (.pointer (some ⟨b,0,none⟩))) (hy : ev E y = some (.agg vs.toArray))
    [hb : WB L b (.cells cs.toArray bt (0,0)) L'] (hn : vs.length = n) (hn' : cs.length = n) (hv : ∀ v ∈ vs,v.oneCell' = true) (hd : dok N d = true) (h : next (put E d undef) D (L' (.cells vs.toArray bt (0,0)))) :
    JO P N rd ⟨d,.store t x y,ty,pos,after,g⟩ E D L next Q :=
  JO_unit (fun c => by simp) hd fun F a w hr hs' => by
    obtain ⟨i,h1,h2,h3,h4⟩ := TI.h (P := P) (t := t) (z := z) (n := n) (b := k)
    obtain ⟨hb1,hb2⟩ := hb.h F w hs'
    have hst := run_storeCells_all (P := P) (b := b) (t := bt) vs [] [] w hv cs (by omega) (by simpa using hb1)
    refine ⟨_,_,?_,hb2 _,h⟩
    simp only [List.length_nil,List.nil_append,List.append_nil] at hst
    simp [execOp,Instr.storeAt,Instr.sureAddr,hr.eval hx,hr.eval hy,storeVar,Value.cells,vK h1,h3,hn,hst]

theorem addr_add {b o n : Nat} : (⟨b,o,none⟩ : Addr).add n = ⟨b,o + n,none⟩ := by unfold Addr.add;split <;> simp_all
theorem JO_field {s f off ft n : Nat} [TF P s f off ft n] {x : Operand} {b o : Nat} (hx : ev E x = some (.pointer (some ⟨b,o,none⟩))) (hd : dok N d = true) (h : next (put E d (.pointer (some ⟨b,o + off,none⟩))) D L) :
    JO P N rd ⟨d,.fieldAddr s x f,ty,pos,after,g⟩ E D L next Q :=
  JO_pure _ (fun c => by simp) hd (fun a w hr => by
    obtain ⟨fs,fl,h1,h2,rfl,rfl,⟨i,h3,h4⟩,h5⟩ := TF.h (P := P) (s := s) (f := f) (off := off) (ty := ft) (n := n)
    simp [execOp,Instr.fieldAt,hr.eval hx,yM h1,h2,Instr.sureAddr,fieldPlace,vK h3,h4,h5,addr_add]) h
theorem zF {s f off ft n : Nat} [TF P s f off ft n] {x : Operand} {b : Nat} (hx : ev E x = some (.pointer (some ⟨b,0,none⟩))) (hd : dok N d = true) (h : next (put E d (.pointer (some ⟨b,off,none⟩))) D L) :
    JO P N rd ⟨d,.fieldAddr s x f,ty,pos,after,g⟩ E D L next Q := JO_field hx hd (by rw [Nat.zero_add];exact h)
theorem wI {t e : TypeId} [TU P t (.slice e)] {z : Value} {n k : Nat} [TI P e z n k] {x y : Operand} {b o len cap j : Nat} {ik : IntKind} (hx : ev E x = some (.slice (some ⟨b,o,none⟩) len cap)) (hy : ev E y = some (.int ik (j : Int))) (hj : j < len)
    (hd : dok N d = true) (h : next (put E d (.pointer (some ⟨b,o + j * n,none⟩))) D L) : JO P N rd ⟨d,.indexAddr t x y,ty,pos,after,g⟩ E D L next Q :=
  JO_pure _ (fun c => by simp) hd (fun a w hr => by
    obtain ⟨i,h1,h2,h3,h4⟩ := TI.h (P := P) (t := e) (z := z) (n := n) (b := k)
    have h5 : ¬ len ≤ j := by omega
    simp [execOp,Instr.indexAt,hr.eval hx,hr.eval hy,asIntOf,yM (TU.h (P := P) (t := t)),vK h1,h3,addr_add,h5]) h
theorem JO_index1 {t e : TypeId} [TU P t (.slice e)] {z : Value} {k : Nat} [TI P e z 1 k] {x y : Operand} {b len cap j : Nat} {ik : IntKind} (hx : ev E x = some (.slice (some ⟨b,0,none⟩) len cap)) (hy : ev E y = some (.int ik (j : Int))) (hj : j < len)
    (hd : dok N d = true) (h : next (put E d (.pointer (some ⟨b,j,none⟩))) D L) : JO P N rd ⟨d,.indexAddr t x y,ty,pos,after,g⟩ E D L next Q :=
  wI hx hy hj hd (by simpa using h)

theorem JO_call {f : FuncId} [hf : CF P f] {args : Array Operand} {ts : Array TypeId} {vs : List Value} {R : Ending → List HP → Prop} (hx : evs E args.toList = some vs) (hc : Ct P f vs.toArray L R) (hd : dok N d = true)
    (hv : ∀ v L',R (.returned v) L' → next (put E d v) D L') (hp : ∀ ch L',R (.panicked ch) L' → Q (.panic ch) E D L') : JO P N rd ⟨d,.call ⟨.value (.func f),args,ts⟩,ty,pos,after,g⟩ E D L next Q :=
  JO_enter (fun c => by simp) hd (fun a w hr => by
    have e : args.map a.eval = vs.toArray := by rw [← hr.evals hx];apply Array.ext';simp
    simp [execOp,resolve,e,Act.eval,Deferred.ofValue,invoke,hf.h]) hc hv hp
theorem JO_callV {f : FuncId} [hf : CF P f] {x : Operand} {args : Array Operand} {ts : Array TypeId} {vs fs cs : List Value} {R : Ending → List HP → Prop} (hfv : ev E x = some (.func (.func f) fs.toArray cs.toArray)) (hx : evs E args.toList = some vs)
    (hc : Ct P f (fs ++ vs ++ cs).toArray L R) (hd : dok N d = true)
    (hv : ∀ v L',R (.returned v) L' → next (put E d v) D L') (hp : ∀ ch L',R (.panicked ch) L' → Q (.panic ch) E D L') : JO P N rd ⟨d,.call ⟨.value x,args,ts⟩,ty,pos,after,g⟩ E D L next Q :=
  JO_enter (fun c => by simp) hd (fun a w hr => by
    have e : args.map a.eval = vs.toArray := by rw [← hr.evals hx];apply Array.ext';simp
    simp [execOp,resolve,e,hr.eval hfv,Deferred.ofValue,invoke,hf.h]) hc hv hp

class Tk (A : HP) (L : List HP) (M : outParam (List HP)) : Prop where h : L.Perm (A :: M)
instance tk_head (A : HP) (L : List HP) : Tk A (A :: L) L := ⟨.refl _⟩
instance (priority := low) tk_tail (A B : HP) (L M : List HP) [h : Tk A L M] : Tk A (B :: L) (B :: M) := ⟨(h.h.cons B).trans (List.Perm.swap _ _ _)⟩
class Sel (K L : List HP) (M : outParam (List HP)) : Prop where h : L.Perm (K ++ M)
instance sel_nil (L : List HP) : Sel [] L L := ⟨.refl _⟩
instance sel_cons (A : HP) (K L M M' : List HP) [h1 : Tk A L M] [h2 : Sel K M M'] : Sel (A :: K) L M' := ⟨h1.h.trans (h2.h.cons A)⟩
theorem Ct.use {f : FuncId} {args : Array Value} {K M : List HP} {R : Ending → List HP → Prop} (h : Ct P f args K R) [hs : Sel K L M] : Ct P f args L fun e L'' => ∃ L',R e L' ∧ L'' = L' ++ M :=
  Ct.heap (fun F _ s => s.perm (hs.h.cons F)) (h.frame M)
end
end Go.Sp

/- The rules of slices: literals,owned rows that grow,rows made whole,frozen rows that are read. -/
namespace Go.Sp
open Go.RowKit

class One (v : Value) : Prop where h : v.oneCell' = true
instance (k : IntKind) (n : Int) : One (.int k n) := ⟨rfl⟩
instance (f : Fn) (x y : Array Value) : One (.func f x y) := ⟨rfl⟩
theorem One.cells {v : Value} (h : v.oneCell' = true) : v.cells = #[v] := by cases v <;> first | rfl | simp [Value.oneCell'] at h

class Cat (vs : List Value) (n : Nat) (cs : outParam (List Value)) : Prop where h : (∀ v ∈ vs,v.cells.size = n) ∧ vs.flatMap (fun v => v.cells.toList) = cs
instance cat_nil (n : Nat) : Cat [] n [] := ⟨by simp⟩
instance cat_one (v : Value) (vs cs : List Value) [h1 : One v] [h2 : Cat vs 1 cs] : Cat (v :: vs) 1 (v :: cs) := ⟨by
  have := One.cells h1.h
  refine ⟨fun u hu => ?_,?_⟩
  · rcases List.mem_cons.1 hu with rfl | hu
    · simp [this]
    · exact h2.h.1 u hu
  · simp [this,h2.h.2]⟩
class App (l r : List Value) (s : outParam (List Value)) : Prop where h : l ++ r = s
instance app_nil (r : List Value) : App [] r r := ⟨rfl⟩
instance app_cons (a : Value) (l r s : List Value) [h : App l r s] : App (a :: l) r (a :: s) := ⟨by simp [h.h]⟩
class Len (l : List Value) (n : outParam Nat) : Prop where h : l.length = n
instance len_nil : Len [] 0 := ⟨rfl⟩
instance len_cons (a : Value) (l : List Value) (n : Nat) [h : Len l n] : Len (a :: l) (n + 1) := ⟨by simp [h.h]⟩
instance cat_agg (l vs cs s : List Value) (n : Nat) [h0 : Cat vs n cs] [h1 : App l cs s] [h2 : Len l n] : Cat (.agg l.toArray :: vs) n s := ⟨by
  refine ⟨fun u hu => ?_,?_⟩
  · rcases List.mem_cons.1 hu with rfl | hu
    · simpa [Value.cells] using h2.h
    · exact h0.h.1 u hu
  · rw [List.flatMap_cons,h0.h.2];exact h1.h⟩

theorem fill_row : ∀ (vs : List Value) (size : Nat) (pre post : List Value),(∀ v ∈ vs,v.cells.size = size) → post.length = vs.length * size →
    ∀ k,pre.length = k * size → Instr.fill (fun i => some (i * size,size)) (pre ++ post).toArray ((vs.zipIdx k).map fun (v,i) => (i,v)) = some (pre ++ vs.flatMap (fun v => v.cells.toList)).toArray := by
  intro vs
  induction vs with
  | nil =>
    intro size pre post _ hp k _
    have : post = [] := by simpa using hp
    simp [Instr.fill,this]
  | cons v vs ih =>
    intro size pre post hv hp k hk
    have hsz : v.cells.size = size := hv v (by simp)
    have hp' : post.length = size + vs.length * size := by rw [hp];simp [Nat.add_mul];omega
    have hcells : ∀ (cs : List Value) (pre post : List Value),cs.length ≤ post.length →
        ((cs.zipIdx 0).foldl (fun (acc : Array Value) (x : Value × Nat) => acc.setIfInBounds (pre.length + x.2) x.1) (pre ++ post).toArray) = (pre ++ cs ++ post.drop cs.length).toArray := by
      intro cs
      have gen : ∀ (cs : List Value) (j : Nat) (pre mid post : List Value),mid.length = j → cs.length ≤ post.length →
          ((cs.zipIdx j).foldl (fun (acc : Array Value) (x : Value × Nat) => acc.setIfInBounds (pre.length + x.2) x.1) (pre ++ mid ++ post).toArray) = (pre ++ mid ++ cs ++ post.drop cs.length).toArray := by
        intro cs
        induction cs with
        | nil => intro j pre mid post _ _;simp
        | cons c cs ih2 =>
          intro j pre mid post hm hl
          obtain ⟨p,post,rfl⟩ : ∃ p l,post = p :: l := by cases post with | nil => simp at hl | cons p l => exact ⟨p,l,rfl⟩
          have hset : (pre ++ mid ++ p :: post).set (pre.length + j) c = pre ++ (mid ++ [c]) ++ post := by
            rw [← hm,← List.length_append,List.set_append_right _ _ (Nat.le_refl _)]
            simp
          simp only [List.zipIdx_cons,List.foldl_cons,List.setIfInBounds_toArray,hset]
          rw [ih2 (j + 1) pre (mid ++ [c]) post (by simp [hm]) (by simpa using hl)]
          simp
      intro pre post hl
      have := gen cs 0 pre [] post rfl hl
      simpa using this
    have h1 : ((v.cells.zipIdx).foldl (fun (cs : Array Value) (x : Value × Nat) => cs.setIfInBounds (k * size + x.2) x.1) (pre ++ post).toArray) = (pre ++ v.cells.toList ++ post.drop size).toArray := by
      have h2 := hcells v.cells.toList pre post (by simp [hsz];omega)
      rw [← hk]
      simp only [Array.length_toList,hsz] at h2
      rw [← h2,← Array.foldl_toList,Array.toList_zipIdx]
    have h3 : ¬ (v.cells.size ≠ size || k * size + v.cells.size > (pre ++ post).toArray.size) = true := by
      simp [hsz,hk,hp']
    simp only [List.zipIdx_cons,List.map_cons,Instr.fill]
    rw [if_neg h3,h1,show pre ++ v.cells.toList ++ post.drop size = (pre ++ v.cells.toList) ++ post.drop size from rfl]
    rw [ih size (pre ++ v.cells.toList) (post.drop size) (fun u hu => hv u (by simp [hu])) (by simp [hp']) (k + 1) (by simp [hk,hsz,Nat.add_mul])]
    simp

def inOrder : List (Nat × Operand) → Nat → Option (List Operand)
  | [],_ => some []
  | (i,x) :: l,k => match Nat.beq i k with | true => (inOrder l (k + 1)).map (x :: ·) | false => none
theorem inOrder_eq : ∀ (l : List (Nat × Operand)) (k : Nat) (xs : List Operand),inOrder l k = some xs → l = (xs.zipIdx k).map fun (x,i) => (i,x) := by
  intro l
  induction l with
  | nil => intro k xs h;simp [inOrder] at h;simp [← h]
  | cons p l ih =>
    intro k xs h
    obtain ⟨i,x⟩ := p
    simp only [inOrder] at h
    split at h
    · rename_i hb
      have := Nat.eq_of_beq_eq_true hb
      subst this
      rw [Option.map_eq_some_iff] at h
      obtain ⟨ys,h1,rfl⟩ := h
      simp [ih _ _ h1]
    · cases h

section
variable {P : Program} {N : Nat} {rd : Option Nat} {E : Env} {D : List Deferred} {L : List HP} {Q : uF} {next : Env → List Deferred → List HP → Prop}
variable {d : Option Nat} {ty : TypeId} {pos : String} {after : Array Edge} {g : Option (Nat × Bool)}

theorem yP {t e : TypeId} [TU P t (.slice e)] {z : Value} {n k : Nat} [TI P e z n k] {len : Nat} {parts : Array (Nat × Operand)} {xs : List Operand} {vs cs : List Value}
    (hp : inOrder parts.toList 0 = some xs) (hx : evs E xs = some vs) [hc : Cat vs n cs] (hl : vs.length = len) (hb : len * n ≤ 16777216) (hd : dok N d = true)
    (h : ∀ r,next (put E d (.slice (some ⟨r,0,none⟩) len len)) D (pt r (.cells cs.toArray e (0,0)) :: L)) :
    JO P N rd ⟨d,.buildSlice t len parts,ty,pos,after,g⟩ E D L next Q :=
  JO_value (fun c => by simp) hd fun F a w hr hs => by
    obtain ⟨i,h1,h2,h3,h4⟩ := TI.h (P := P) (t := e) (z := z) (n := n) (b := k)
    obtain ⟨c1,c2⟩ := hc.h
    have hparts : parts.toList.map (fun (x : Nat × Operand) => (x.1,a.eval x.2)) = (vs.zipIdx 0).map fun (v,i) => (i,v) := by
      have e1 := inOrder_eq _ _ _ hp
      have e2 := hr.evals hx
      rw [e1,← e2]
      simp [List.zipIdx_map]
    have hfill : ∀ zc : Array Value,Instr.fill (fun i => some (i * n,n)) ((Array.range (len * n)).map (fun j => zc[j % zc.size]!)) (parts.toList.map (fun (x : Nat × Operand) => (x.1,a.eval x.2))) = some cs.toArray := by
      intro zc
      have := fill_row vs n [] ((Array.range (len * n)).map (fun j => zc[j % zc.size]!)).toList c1 (by simp [hl]) 0 (by simp)
      rw [c2,← hparts] at this
      simp only [List.nil_append,Array.toArray_toList] at this
      exact this
    refine ⟨_,_,_,?_,(hs.new (.cells cs.toArray e (0,0))).swap,h _⟩
    have hb' : ¬ (16777216 < len * n) := by omega
    by_cases h0 : len * n = 0
    · have := hfill #[]
      rw [h0,show (Array.range 0).map (fun j => (#[] : Array Value)[j % (#[] : Array Value).size]!) = (Array.range 0).map (fun _ => (default : Value)) from by rw [Array.range_zero'];rfl] at this
      simp [execOp,Instr.buildSlice,yM (TU.h (P := P) (t := t)),vK h1,h3,h0,this,newRow]
    · simp [execOp,Instr.buildSlice,yM (TU.h (P := P) (t := t)),vK h1,h3,hb',h0,run_zeroValue' h1 h2,hfill,newRow]
end
end Go.Sp

/- Owned rows that grow (append),rows made whole (make),frozen rows that are read;arrays;bits. -/
namespace Go.Sp
open Go.RowKit

def yC (e sz : Nat) (v : Value) (n : Nat) (cs : List Value) : HP := fun h => cs.length = n * sz ∧
  ((v = .slice none 0 0 ∧ n = 0) ∨ ∃ b sp cap,v = .slice (some ⟨b,0,none⟩) n cap ∧ n ≤ cap ∧ cap ≤ maxLen ∧ cs.length + sp.length = cap * sz ∧ h (some b) = some (false,.obj (.cells (cs ++ sp).toArray e (0,0))))

def Vw (sz : Nat) (v : Value) (n : Nat) (cs : List Value) : HP := fun h => cs.length = n * sz ∧ n ≤ maxLen ∧
  ∃ p cap,v = .slice p n cap ∧ (n = 0 ∨ ∃ b o all e fz,p = some ⟨b,o,none⟩ ∧ h (some b) = some (true,.obj (.cells (List.toArray all) e fz)) ∧ ∀ i u,cs[i]? = some u → all[o + i]? = some u)

theorem vQ (sz : Nat) (v : Value) (n : Nat) (cs : List Value) : Pers (Vw sz v n cs) := by
  rintro h ⟨h1,h0,p,cap,h2,h3⟩
  refine ⟨h1,h0,p,cap,h2,h3.imp id ?_⟩
  rintro ⟨b,o,all,e,fz,h4,h5,h6⟩
  exact ⟨b,o,all,e,fz,h4,ice_ice h5,h6⟩

theorem Sat.own_cases {w : World} {e sz : Nat} {v : Value} {n : Nat} {cs : List Value} {L : List HP} (h : Sat w (yC e sz v n cs :: L)) :
    cs.length = n * sz ∧ ((v = .slice none 0 0 ∧ n = 0 ∧ Sat w L) ∨ ∃ b sp cap,v = .slice (some ⟨b,0,none⟩) n cap ∧ n ≤ cap ∧ cap ≤ maxLen ∧ cs.length + sp.length = cap * sz ∧ Sat w (pt b (.cells (cs ++ sp).toArray e (0,0)) :: L)) := by
  have h0 : cs.length = n * sz := h.out (fun _ hk => hk.1)
  refine ⟨h0,?_⟩
  by_cases hv : v = .slice none 0 0 ∧ n = 0
  · exact .inl ⟨hv.1,hv.2,h.tail⟩
  · right
    have := h.outE (α := Nat × List Value × Nat) (B := fun x k => v = .slice (some ⟨x.1,0,none⟩) n x.2.2 ∧ n ≤ x.2.2 ∧ x.2.2 ≤ maxLen ∧ cs.length + x.2.1.length = x.2.2 * sz ∧ k (some x.1) = some (false,.obj (.cells (cs ++ x.2.1).toArray e (0,0)))) (by
      rintro k ⟨_,h1 | ⟨b,sp,cap,h1⟩⟩
      · exact absurd h1 hv
      · exact ⟨(b,sp,cap),h1⟩)
    obtain ⟨⟨b,sp,cap⟩,hs⟩ := this
    have hf := hs.out (φ := v = .slice (some ⟨b,0,none⟩) n cap ∧ n ≤ cap ∧ cap ≤ maxLen ∧ cs.length + sp.length = cap * sz) (fun k hk => ⟨hk.1,hk.2.1,hk.2.2.1,hk.2.2.2.1⟩)
    exact ⟨b,sp,cap,hf.1,hf.2.1,hf.2.2.1,hf.2.2.2,hs.conv fun k hk => hk.2.2.2.2⟩
theorem Sat.own_block {w : World} {e sz b cap n : Nat} {cs sp : List Value} {L : List HP} (h : Sat w (pt b (.cells (cs ++ sp).toArray e (0,0)) :: L)) (h0 : cs.length = n * sz) (h1 : n ≤ cap) (h2 : cap ≤ maxLen) (h3 : cs.length + sp.length = cap * sz) :
    Sat w (yC e sz (.slice (some ⟨b,0,none⟩) n cap) n cs :: L) := h.conv fun _ hk => ⟨h0,.inr ⟨b,sp,cap,rfl,h1,h2,h3,hk⟩⟩
theorem Sat.own_nil {w : World} {e sz : Nat} {L : List HP} (h : Sat w L) : Sat w (yC e sz (.slice none 0 0) 0 [] :: L) := h.add ⟨by simp,.inl ⟨rfl,rfl⟩⟩
theorem own_wide {e sz : Nat} {v : Value} {n : Nat} {cs : List Value} {h : Part} (hk : yC e sz v n cs h) : n ≤ maxLen := by
  obtain ⟨_,⟨_,rfl⟩ | ⟨b,sp,cap,_,h1,h2,_⟩⟩ := hk
  · simp [maxLen]
  · exact Nat.le_trans h1 h2
theorem own_one {e sz : Nat} {v : Value} {n : Nat} {cs : List Value} {h : Part} (hk : yC e sz v n cs h) : v.oneCell' = true := by
  obtain ⟨_,⟨rfl,_⟩ | ⟨b,sp,cap,rfl,_⟩⟩ := hk <;> rfl
theorem Sat.own_freeze {w : World} {e sz : Nat} {v : Value} {n : Nat} {cs : List Value} {L : List HP} (h : Sat w (yC e sz v n cs :: L)) : Sat w (Vw sz v n cs :: L) := by
  have hw : n ≤ maxLen := h.out (fun _ => own_wide)
  obtain ⟨h0,⟨rfl,rfl,hs⟩ | ⟨b,sp,cap,rfl,h1,h2,h3,hs⟩⟩ := h.own_cases
  · exact hs.add ⟨h0,hw,none,0,rfl,.inl rfl⟩
  · exact hs.freeze.conv fun k hk => ⟨h0,hw,some ⟨b,0,none⟩,cap,rfl,.inr ⟨b,0,cs ++ sp,e,(0,0),rfl,hk,fun i u hu => by
      rw [Nat.zero_add,List.getElem?_append_left (List.getElem?_eq_some_iff.1 hu).1];exact hu⟩⟩

theorem length_cells_pos {z : Value} {sz : Nat} (h : z.cells.size = sz) (n : Nat) : (Builtin.zeroCells z.cells n).toList.length = n * sz := by
  simp [Builtin.zeroCells,h]

theorem append_nothing {P : Program} {w : World} {t e ty : TypeId} {i : TypeInfo} (ht : P.underlying t = some (.slice e)) (hi : P.info? e = some i) (p : Option Addr) (n cap : Nat) (hn : n ≤ cap) (u : Value) (hu : ∃ q c,u = .slice q 0 c) :
    (Builtin.append_ #[t,t] ty #[.slice p n cap,u]).run P w = .ok (.slice p n cap) w := by
  obtain ⟨q,c,rfl⟩ := hu
  cases p <;> cases q <;> simp [Builtin.append_,run_underlying ht,sizeOf,typeInfo,hi,Builtin.lenOf,Builtin.firstCells,loadCells,loadCellsFrom,hn,storeCells]

theorem sat_append {P : Program} {w : World} {L : List HP} {t e ty sz k : Nat} {z : Value} (ht : P.underlying t = some (.slice e)) [TI P e z sz k] (hzs : z.cells.size = sz) (_ : 0 < sz) {v : Value} {n : Nat} {cs : List Value}
    (hs : Sat w (yC e sz v n cs :: L)) {p : Option Addr} {m c : Nat} {news : List Value} (hl : news.length = m * sz) (hr : m = 0 ∨ ∃ a,p = some a ∧ ∀ j u,news[j]? = some u → w.cell? (a.add j) = some u) (h1 : ∀ u ∈ news,u.oneCell' = true)
    (hb : (n + m) * k ≤ 140737488355328) (hk : 0 < k) :
    ∃ v' w',(Builtin.append_ #[t,t] ty #[v,.slice p m c]).run P w = .ok v' w' ∧ Sat w' (yC e sz v' (n + m) (cs ++ news) :: L) := by
  obtain ⟨i,hi,hz,hsize,hbytes⟩ := TI.h (P := P) (t := e) (z := z) (n := sz) (b := k)
  have hnm : n + m ≤ (n + m) * k := Nat.le_mul_of_pos_right _ hk
  have hml : n + m ≤ maxLen := by simp [maxLen];omega
  obtain ⟨h0,hcase⟩ := hs.own_cases
  by_cases hm : m = 0
  · subst hm
    have hnews : news = [] := by simpa using hl
    subst hnews
    rcases hcase with ⟨rfl,rfl,hs'⟩ | ⟨b,sp,cap,rfl,hle,hcm,hlen,hs'⟩
    · exact ⟨_,w,append_nothing ht hi none 0 0 (Nat.le_refl _) _ ⟨p,c,rfl⟩,by simpa using hs⟩
    · exact ⟨_,w,append_nothing ht hi _ n cap hle _ ⟨p,c,rfl⟩,by simpa using hs⟩
  · obtain ⟨a,rfl,hr2⟩ := hr.resolve_left hm
    have hl' : news.length = m * i.size := by rw [hsize];exact hl
    rcases hcase with ⟨rfl,rfl,hs'⟩ | ⟨b,sp,cap,rfl,hle,hcm,hlen,hs'⟩
    · have hcs : cs = [] := by simpa using h0
      subst hcs
      have hrun := run_append_nil (P := P) w t ty e i z ht hi hz a m c news hl' hr2 (by omega) (by omega) (by rw [hbytes];simp only [Nat.zero_add] at hb;omega)
      refine ⟨_,_,hrun,?_⟩
      have hge := grownCap_ge w m 0 e
      have hmx := grownCap_le_maxLen w m 0 e (by simpa using hml)
      have hnew := (hs'.world (w' := w.drew) rfl).new (.cells (news ++ (Builtin.zeroCells z.cells (grownCap w m 0 e - m)).toList).toArray e)
      have hsz2 : w.drew.heap.size = w.heap.size := rfl
      rw [hsz2] at hnew
      have hcells : (news ++ (Builtin.zeroCells z.cells (grownCap w m 0 e - m)).toList).toArray = news.toArray ++ Builtin.zeroCells z.cells (grownCap w m 0 e - m) := by apply Array.ext';simp
      have h3 : news.length + (Builtin.zeroCells z.cells (grownCap w m 0 e - m)).toList.length = grownCap w m 0 e * sz := by
        rw [length_cells_pos hzs,hl,← Nat.add_mul];congr 1;omega
      have := Sat.own_block (n := m) (sz := sz) (cap := grownCap w m 0 e) hnew hl hge hmx h3
      rw [hcells] at this
      simp only [Nat.zero_add,List.nil_append]
      exact this
    · by_cases hfit : n + m ≤ cap
      · have hroom := run_append_room (P := P) w t ty e i ht hi b n cap (cs ++ sp).toArray hs'.pt_heap a m c news hl' hr2 h1 hfit (by
          rw [hsize,hl];simp only [List.size_toArray,List.length_append];rw [hlen,← Nat.add_mul];exact Nat.mul_le_mul_right _ hfit)
        refine ⟨_,_,hroom,?_⟩
        rw [hsize] at *
        have e1 : (cs ++ sp).take (n * sz) = cs := by rw [← h0];simp
        have e2 : (cs ++ sp).drop (n * sz + news.length) = sp.drop news.length := by rw [← h0];simp
        rw [e1,e2]
        have hb1 := hs'.pt_heap
        have hb2 := (Array.getElem?_eq_some_iff.1 hb1).1
        have hs3 : Sat (w.setRow b (cs ++ news ++ sp.drop news.length).toArray) (pt b (.cells (cs ++ news ++ sp.drop news.length).toArray e (0,0)) :: L) := by
          refine hs'.grown rfl rfl rfl (fun k hk hne => ?_) ?_
          · simp [World.setRow,Array.getElem?_modify,Ne.symm hne]
          · simp [World.setRow,Array.getElem?_modify,hb1]
        refine Sat.own_block hs3 ?_ hfit hcm ?_
        · simp [h0,hl,Nat.add_mul]
        · simp only [List.length_append,List.length_drop]
          have : news.length ≤ sp.length := by
            have := Nat.mul_le_mul_right sz hfit
            rw [Nat.add_mul,← hlen,← hl,← h0] at this
            omega
          omega
      · have hgrow := run_append_grow (P := P) w t ty e i z ht hi hz ⟨b,0,none⟩ n cap cs (by rw [hsize];exact h0) (fun j u hj => by
            rw [addr_add,Nat.zero_add]
            exact cell_of hs'.pt_heap (by rw [List.getElem?_append_left (List.getElem?_eq_some_iff.1 hj).1];exact hj)) a m c news hl' hr2 (by omega) (by omega)
            (growslice_fits (by omega) (by rw [hbytes];exact hb))
        refine ⟨_,_,hgrow,?_⟩
        have hge := grownCap_ge w (n + m) cap e
        have hmx := grownCap_le_maxLen w (n + m) cap e hml
        have hnew := ((hs'.tail).world (w' := w.drew) rfl).new (.cells (cs ++ news ++ (Builtin.zeroCells z.cells (grownCap w (n + m) cap e - (n + m))).toList).toArray e)
        have hsz2 : w.drew.heap.size = w.heap.size := rfl
        rw [hsz2] at hnew
        have hcells : (cs ++ news ++ (Builtin.zeroCells z.cells (grownCap w (n + m) cap e - (n + m))).toList).toArray = cs.toArray ++ news.toArray ++ Builtin.zeroCells z.cells (grownCap w (n + m) cap e - (n + m)) := by apply Array.ext';simp
        have h3 : (cs ++ news).length + (Builtin.zeroCells z.cells (grownCap w (n + m) cap e - (n + m))).toList.length = grownCap w (n + m) cap e * sz := by
          rw [length_cells_pos hzs,List.length_append,h0,hl,← Nat.add_mul,← Nat.add_mul];congr 1;omega
        have := Sat.own_block (n := n + m) (sz := sz) (cap := grownCap w (n + m) cap e) hnew (by simp [h0,hl,Nat.add_mul]) hge hmx h3
        rw [hcells] at this
        exact this

class TkO (v : Value) (L : List HP) (e sz n : outParam Nat) (cs : outParam (List Value)) (M : outParam (List HP)) : Prop where h : L.Perm (yC e sz v n cs :: M)
instance tko_head (v : Value) (e sz n : Nat) (cs : List Value) (L : List HP) : TkO v (yC e sz v n cs :: L) e sz n cs L := ⟨.refl _⟩
instance (priority := low) tko_tail (v : Value) (A : HP) (e sz n : Nat) (cs : List Value) (L M : List HP) [h : TkO v L e sz n cs M] : TkO v (A :: L) e sz n cs (A :: M) := ⟨(h.h.cons A).trans (List.Perm.swap _ _ _)⟩

class HV (L : List HP) (v : Value) (sz n : outParam Nat) (cs : outParam (List Value)) : Prop where h : ∀ (F : HP) (w : World),Sat w (F :: L) → ∃ M,Sat w (Vw sz v n cs :: M)
instance hv_head (v : Value) (sz n : Nat) (cs : List Value) (L : List HP) : HV (Vw sz v n cs :: L) v sz n cs := ⟨fun _ _ hs => ⟨_,hs.tail⟩⟩
instance (priority := low) hv_tail (A : HP) (v : Value) (sz n : Nat) (cs : List Value) (L : List HP) [h : HV L v sz n cs] : HV (A :: L) v sz n cs := ⟨fun _ _ hs => h.h A _ hs.tail⟩

def Rds (L : List HP) (u : Value) (m : Nat) (cs : List Value) : Prop := ∃ p c,u = .slice p m c ∧ ∀ (F : HP) (w : World),Sat w (F :: L) → m = 0 ∨ ∃ a,p = some a ∧ ∀ j x,cs[j]? = some x → w.cell? (a.add j) = some x

section
variable {P : Program} {N : Nat} {rd : Option Nat} {E : Env} {D : List Deferred} {L : List HP} {Q : uF} {next : Env → List Deferred → List HP → Prop}
variable {d : Option Nat} {ty : TypeId} {pos : String} {after : Array Edge} {g : Option (Nat × Bool)}

theorem wM {x y : Operand} {t e sz n m k : Nat} [TU P t (.slice e)] {z : Value} [TI P e z sz k] {v u : Value} {cs news : List Value} {M : List HP} (hx : ev E x = some v) (hy : ev E y = some u)
    [ho : TkO v L e sz n cs M] (hr : Rds L u m news) (hzs : z.cells.size = sz) (hsz : 0 < sz) (hl : news.length = m * sz) (h1 : ∀ u ∈ news,u.oneCell' = true) (hb : (n + m) * k ≤ 140737488355328) (hk : 0 < k)
    (hd : dok N d = true) (h : ∀ v',v'.oneCell' = true → next (put E d v') D (yC e sz v' (n + m) (cs ++ news) :: M)) : JO P N rd ⟨d,.call ⟨.builtin .append,#[x,y],#[t,t]⟩,ty,pos,after,g⟩ E D L next Q :=
  JO_value (fun c => by simp) hd fun F a w hr' hs => by
    obtain ⟨p,c,rfl,hrd⟩ := hr
    have hs1 : Sat w (yC e sz v n cs :: F :: M) := (hs.perm (ho.h.cons F)).swap
    obtain ⟨v',w',h2,h3⟩ := sat_append (P := P) (t := t) (ty := ty) (c := c) TU.h hzs hsz hs1 hl (hrd F w hs) h1 hb hk
    exact ⟨v',w',_,by simp [execOp,resolve,invoke,builtin,hr'.eval hx,hr'.eval hy,h2],h3.swap,h v' (h3.out fun _ hk => own_one hk)⟩

theorem wL {r m c : Nat} {cs : List Value} {bt : TypeId} {fz : Nat × Nat} [hb : HB L r (.cells cs.toArray bt fz)] : Rds L (.slice (some ⟨r,0,none⟩) m c) m cs :=
  ⟨_,_,rfl,fun F w hs => .inr ⟨_,rfl,fun j x hj => by rw [addr_add,Nat.zero_add];exact cell_of (hb.h F w hs) hj⟩⟩
theorem JO_indexV {t e sz k : Nat} [TU P t (.slice e)] {z : Value} [TI P e z sz k] {x y : Operand} {p : Option Addr} {n cap j : Nat} {cs : List Value} {ik : IntKind} (hx : ev E x = some (.slice p n cap)) (hy : ev E y = some (.int ik (j : Int)))
    [hv : HV L (.slice p n cap) sz n cs] (hj : j < n) (hd : dok N d = true) (h : ∀ b o,(∀ i u,i < sz → cs[j * sz + i]? = some u → Lds L ⟨b,o + i,none⟩ u) → next (put E d (.pointer (some ⟨b,o,none⟩))) D L) :
    JO P N rd ⟨d,.indexAddr t x y,ty,pos,after,g⟩ E D L next Q := by
  intro F a w hr hs
  obtain ⟨M,hM⟩ := hv.h F w hs
  obtain ⟨kk,⟨_,_,_,hle,_,hV,_⟩,m⟩ := hM
  obtain ⟨h1,_,p',cap',h2,h3⟩ := hV
  cases h2
  obtain ⟨b,o,all,e',fz,rfl,h5,h6⟩ := h3.resolve_left (by omega)
  refine wI hx hy hj hd (h b (o + j * sz) fun i u hi hu F' w' hs' => ?_) F a w hr hs
  obtain ⟨M',hM'⟩ := hv.h F' w' hs'
  obtain ⟨kk',⟨_,_,_,hle',_,hV',_⟩,m'⟩ := hM'
  obtain ⟨_,_,p'',cap'',h2',h3'⟩ := hV'
  cases h2'
  obtain ⟨b',o',all',e'',fz',hb',h5',h6'⟩ := h3'.resolve_left (by omega)
  cases hb'
  rw [Nat.add_assoc]
  exact cell_of (at_obj (m' _ _ (hle' _ _ h5'))) (h6' _ _ hu)
theorem JO_indexV1 {t e k : Nat} [TU P t (.slice e)] {z : Value} [TI P e z 1 k] {x y : Operand} {p : Option Addr} {n cap j : Nat} {cs : List Value} {ik : IntKind} (hx : ev E x = some (.slice p n cap)) (hy : ev E y = some (.int ik (j : Int)))
    [hv : HV L (.slice p n cap) 1 n cs] (hj : j < n) (u : Value) (hu : cs[j]? = some u) (hd : dok N d = true) (h : ∀ b o,Lds L ⟨b,o,none⟩ u → next (put E d (.pointer (some ⟨b,o,none⟩))) D L) :
    JO P N rd ⟨d,.indexAddr t x y,ty,pos,after,g⟩ E D L next Q :=
  JO_indexV hx hy hj hd fun b o hl => h b o (by have := hl 0 u (by omega) (by simpa using hu);simpa using this)

theorem JO_loadAL {t n : TypeId} [TA P t n] {x : Operand} {b o : Nat} (cs : List Value) (hx : ev E x = some (.pointer (some ⟨b,o,none⟩))) (hl : ∀ i u,cs[i]? = some u → Lds L ⟨b,o + i,none⟩ u) (hn : cs.length = n)
    (hd : dok N d = true) (h : next (put E d (.agg cs.toArray)) D L) : JO P N rd ⟨d,.load t x,ty,pos,after,g⟩ E D L next Q :=
  JO_value (fun c => by simp) hd fun F a w hr hs => ⟨_,w,L,by
    obtain ⟨_,i,hi,hsz⟩ := TA.h (P := P) (t := t) (n := n)
    have := run_loadCells_list (P := P) (w := w) ⟨b,o,none⟩ cs (fun j v hj => by rw [addr_add];exact hl j v hj F w hs)
    rw [hn] at this
    simp [execOp,Instr.loadAt,Instr.sureAddr,hr.eval hx,loadVar,run_isAggA (P := P) (t := t) (n := n),vK hi,hsz,this],hs,h⟩

theorem JO_storeS {t : TypeId} {z : Value} {k : Nat} [TI P t z 1 k] {x y : Operand} {b off : Nat} {cs : List Value} {bt : TypeId} {v : Value} {L' : Obj → List HP} (hx : ev E x = some (.pointer (some ⟨b,off,none⟩))) (hy : ev E y = some v)
    [hb : WB L b (.cells cs.toArray bt (0,0)) L'] (ho : off < cs.length) (hv : v.oneCell' = true) (hd : dok N d = true) (h : next (put E d undef) D (L' (.cells (cs.set off v).toArray bt (0,0)))) : JO P N rd ⟨d,.store t x y,ty,pos,after,g⟩ E D L next Q :=
  JO_unit (fun c => by simp) hd fun F a w hr hs' => by
    obtain ⟨i,h1,h2,h3,h4⟩ := TI.h (P := P) (t := t) (z := z) (n := 1) (b := k)
    obtain ⟨hb1,hb2⟩ := hb.h F w hs'
    have hc := One.cells hv
    have hst := run_storeCell (P := P) hb1 (List.getElem?_eq_getElem ho) hv
    refine ⟨_,_,?_,hb2 _,h⟩
    simp [execOp,Instr.storeAt,Instr.sureAddr,hr.eval hx,hr.eval hy,storeVar,hc,vK h1,h3,storeCells,Addr.add,hst]

def ibits (op : BinOp) (k : IntKind) (x y : Int) : Int :=
  k.wrap (match op with
    | .and => (BitVec.ofInt k.bits x &&& BitVec.ofInt k.bits y).toNat
    | .or => (BitVec.ofInt k.bits x ||| BitVec.ofInt k.bits y).toNat
    | .xor => (BitVec.ofInt k.bits x ^^^ BitVec.ofInt k.bits y).toNat
    | _ => (BitVec.ofInt k.bits x &&& ~~~BitVec.ofInt k.bits y).toNat)
end
end Go.Sp

/- Contracts that leave what they read;literals as owned rows;what is known of integers in rows. -/
namespace Go.Sp
open Go.RowKit

class PersA (A : HP) : Prop where h : Pers A
instance (sz : Nat) (v : Value) (n : Nat) (cs : List Value) : PersA (Vw sz v n cs) := ⟨vQ sz v n cs⟩
class PersK (K : List HP) : Prop where h : ∀ A ∈ K,Pers A
instance : PersK [] := ⟨by simp⟩
instance (A : HP) (K : List HP) [h1 : PersA A] [h2 : PersK K] : PersK (A :: K) := ⟨fun B hB => by
  rcases List.mem_cons.1 hB with rfl | hB
  · exact h1.h
  · exact h2.h B hB⟩

theorem Sat.dups {w : World} {L : List HP} : ∀ {K : List HP},(∀ A ∈ K,Pers A) → Sat w (K ++ L) → Sat w (K ++ (K ++ L)) := by
  intro K
  induction K generalizing L with
  | nil => exact fun _ h => h
  | cons A K ih =>
    intro hp h
    have h1 : Sat w (A :: A :: (K ++ L)) := Sat.dup h (hp A (by simp))
    have h2 : Sat w (K ++ (A :: A :: L)) := h1.perm (by
      have e1 : (A :: A :: (K ++ L)).Perm (A :: (K ++ A :: L)) := (List.perm_middle.symm).cons A
      exact e1.trans List.perm_middle.symm)
    have h3 := ih (fun B hB => hp B (by simp [hB])) h2
    refine h3.perm ?_
    have e2 : (K ++ (K ++ A :: A :: L)).Perm (A :: A :: (K ++ (K ++ L))) := by
      have a1 : (K ++ A :: A :: L).Perm (A :: A :: (K ++ L)) := List.perm_middle.trans (List.perm_middle.cons A)
      have a2 : (K ++ (K ++ A :: A :: L)).Perm (K ++ (A :: A :: (K ++ L))) := a1.append_left K
      exact a2.trans (List.perm_middle.trans (List.perm_middle.cons A))
    refine e2.trans ?_
    show (A :: A :: (K ++ (K ++ L))).Perm (A :: (K ++ (A :: (K ++ L))))
    exact (List.perm_middle.symm).cons A

theorem Ct.useP {P : Program} {f : FuncId} {args : Array Value} {L K M : List HP} {R : Ending → List HP → Prop} (h : Ct P f args K R) [hs : Sel K L M] [hp : PersK K] : Ct P f args L fun e L'' => ∃ L',R e L' ∧ L'' = L' ++ L := by
  have h1 := h.frame L
  refine Ct.heap (fun F w s => ?_) h1
  have s1 : Sat w (K ++ (F :: M)) := s.perm ((hs.h.cons F).trans List.perm_middle.symm)
  have s2 := Sat.dups hp.h s1
  refine s2.perm ?_
  have e1 : (K ++ (K ++ F :: M)).Perm (F :: (K ++ (K ++ M))) := (List.perm_middle.append_left K).trans List.perm_middle
  exact e1.trans (((hs.h.symm.append_left K)).cons F)

def Ent (L L' : List HP) : Prop := ∀ (F : HP) (w : World),Sat w (F :: L) → Sat w (F :: L')
theorem Ent.refl (L : List HP) : Ent L L := fun _ _ h => h
theorem Ent.trans {L M K : List HP} (h : Ent L M) (k : Ent M K) : Ent L K := fun F w s => k F w (h F w s)
theorem Ent.sel {L K M : List HP} [h : Sel K L M] : Ent L K := fun F _ s => (s.perm (h.h.cons F)).sub ((List.sublist_append_left K M).cons_cons F)
theorem Ent.head {A B : HP} {L : List HP} (hab : ∀ (w : World) (M : List HP),Sat w (A :: M) → Sat w (B :: M)) : Ent (A :: L) (B :: L) := fun _ w hs => (hab w _ hs.swap).swap
theorem Ent.cons {A : HP} {L : List HP} (hab : ∀ (w : World) (M : List HP),Sat w M → Sat w (A :: M)) : Ent L (A :: L) := fun _ w hs => (hab w _ hs).swap
theorem Ent.keep {A : HP} {L M : List HP} (h : Ent L M) : Ent (A :: L) (A :: M) := fun F w hs => by
  have h1 : Sat w (Star [F,A] :: L) := (Sat.fold (L1 := [F,A])).1 hs
  exact (Sat.fold (L1 := [F,A])).2 (h _ w h1)

theorem yE {P : Program} {N : Nat} {L : List HP} {f : FuncId} {fn : Func} {c : Code} {vs : List Value} {R : Ending → List HP → Prop} (hf : P.funcs[f]? = some fn) (hb : fn.body = some c) (hn : fn.ntmps = N) (hN : vs.length ≤ N)
    (h : J P N none c (argEnv 0 vs) [] L (bodyQ P N fn fun e L => ∃ L',Ent L L' ∧ R e L')) : Ct P f vs.toArray L R := fun F w hs =>
  (fn_body hf hb hn hN h F w hs).mono fun _ w' ⟨hne,_,⟨L2,he,hr⟩,s⟩ => ⟨hne,L2,hr,he F w' s⟩

def RetE {α : Type} (φ : α → Prop) (v : α → Value) (L0 : α → List HP) : Ending → List HP → Prop := fun e L => ∃ x,φ x ∧ e = .returned (v x) ∧ L = L0 x
def wF (v : Value) (L0 : List HP) : Ending → List HP → Prop := fun e L => e = .returned v ∧ L = L0
class AppH (K M : List HP) (L : outParam (List HP)) : Prop where h : K ++ M = L
instance (M : List HP) : AppH [] M M := ⟨rfl⟩
instance (A : HP) (K M L : List HP) [h : AppH K M L] : AppH (A :: K) M (A :: L) := ⟨by simp [h.h]⟩

section
variable {P : Program} {N : Nat} {rd : Option Nat} {E : Env} {D : List Deferred} {L : List HP} {Q : uF} {next : Env → List Deferred → List HP → Prop}
variable {d : Option Nat} {ty : TypeId} {pos : String} {after : Array Edge} {g : Option (Nat × Bool)}
theorem yK {α : Type} {φ : α → Prop} {v : α → Value} {L0 : α → List HP} {K M : List HP} {L1 : α → List HP} {f : FuncId} [hf : CF P f] {args : Array Operand} {ts : Array TypeId} {vs : List Value} (hx : evs E args.toList = some vs)
    (hc : Ct P f vs.toArray K (RetE φ v L0)) [hs : Sel K L M] [ha : ∀ x,AppH (L0 x) M (L1 x)] (hd : dok N d = true) (h : ∀ x,φ x → next (put E d (v x)) D (L1 x)) : JO P N rd ⟨d,.call ⟨.value (.func f),args,ts⟩,ty,pos,after,g⟩ E D L next Q :=
  JO_call hx hc.use hd (fun _ _ ⟨_,⟨x,hφ,he,hL⟩,hL'⟩ => by cases he;rw [hL',hL,(ha x).h];exact h x hφ) (fun _ _ ⟨_,⟨_,_,he,_⟩,_⟩ => by cases he)
theorem zN {v : Value} {L0 K M L1 : List HP} {f : FuncId} [hf : CF P f] {args : Array Operand} {ts : Array TypeId} {vs : List Value} (hx : evs E args.toList = some vs)
    (hc : Ct P f vs.toArray K (wF v L0)) [hs : Sel K L M] [ha : AppH L0 M L1] (hd : dok N d = true) (h : next (put E d v) D L1) : JO P N rd ⟨d,.call ⟨.value (.func f),args,ts⟩,ty,pos,after,g⟩ E D L next Q :=
  JO_call hx hc.use hd (fun _ _ ⟨_,⟨he,hL⟩,hL'⟩ => by cases he;rw [hL',hL,ha.h];exact h) (fun _ _ ⟨_,⟨he,_⟩,_⟩ => by cases he)
theorem JO_callEP {α : Type} {φ : α → Prop} {v : α → Value} {L0 : α → List HP} {K M : List HP} {L1 : α → List HP} {f : FuncId} [hf : CF P f] {args : Array Operand} {ts : Array TypeId} {vs : List Value} (hx : evs E args.toList = some vs)
    (hc : Ct P f vs.toArray K (RetE φ v L0)) [hs : Sel K L M] [hp : PersK K] [ha : ∀ x,AppH (L0 x) L (L1 x)] (hd : dok N d = true) (h : ∀ x,φ x → next (put E d (v x)) D (L1 x)) : JO P N rd ⟨d,.call ⟨.value (.func f),args,ts⟩,ty,pos,after,g⟩ E D L next Q :=
  JO_call hx hc.useP hd (fun _ _ ⟨_,⟨x,hφ,he,hL⟩,hL'⟩ => by cases he;rw [hL',hL,(ha x).h];exact h x hφ) (fun _ _ ⟨_,⟨_,_,he,_⟩,_⟩ => by cases he)
theorem zR {v : Value} {L0 K M L1 : List HP} {f : FuncId} [hf : CF P f] {args : Array Operand} {ts : Array TypeId} {vs : List Value} (hx : evs E args.toList = some vs)
    (hc : Ct P f vs.toArray K (wF v L0)) [hs : Sel K L M] [hp : PersK K] [ha : AppH L0 L L1] (hd : dok N d = true) (h : next (put E d v) D L1) : JO P N rd ⟨d,.call ⟨.value (.func f),args,ts⟩,ty,pos,after,g⟩ E D L next Q :=
  JO_call hx hc.useP hd (fun _ _ ⟨_,⟨he,hL⟩,hL'⟩ => by cases he;rw [hL',hL,ha.h];exact h) (fun _ _ ⟨_,⟨he,_⟩,_⟩ => by cases he)
theorem JO_callCE {α : Type} {φ : α → Prop} {v : α → Value} {L0 : α → List HP} {K M : List HP} {L1 : α → List HP} {f : FuncId} [hf : CF P f] {x : Operand} {args : Array Operand} {ts : Array TypeId} {vs fs cs : List Value} (hfv : ev E x = some (.func (.func f) fs.toArray cs.toArray))
    (hx : evs E args.toList = some vs) (hc : Ct P f (fs ++ vs ++ cs).toArray K (RetE φ v L0)) [hs : Sel K L M] [ha : ∀ x,AppH (L0 x) M (L1 x)] (hd : dok N d = true) (h : ∀ x,φ x → next (put E d (v x)) D (L1 x)) :
    JO P N rd ⟨d,.call ⟨.value x,args,ts⟩,ty,pos,after,g⟩ E D L next Q :=
  JO_callV hfv hx hc.use hd (fun _ _ ⟨_,⟨x,hφ,he,hL⟩,hL'⟩ => by cases he;rw [hL',hL,(ha x).h];exact h x hφ) (fun _ _ ⟨_,⟨_,_,he,_⟩,_⟩ => by cases he)

theorem ret_one {α : Type} {φ : α → Prop} {v : α → Value} {L0 : α → List HP} {fn : Func} {t : Nat} {u : Value} (hr : fn.results = #[.tmp t]) (hv : Env.get E t = some u) (x : α) (hφ : φ x) (hu : u = v x) (he : Ent L (L0 x)) :
    bodyQ P N fn (fun e L => ∃ L',Ent L L' ∧ RetE φ v L0 e L') .ret E [] L := ⟨rfl,_,res_one hr hv,_,he,x,hφ,by rw [hu],rfl⟩
theorem zY {v : Value} {L0 : List HP} {fn : Func} {t : Nat} (hr : fn.results = #[.tmp t]) (hv : Env.get E t = some v) (he : Ent L L0) :
    bodyQ P N fn (fun e L => ∃ L',Ent L L' ∧ wF v L0 e L') .ret E [] L := ⟨rfl,_,res_one hr hv,_,he,rfl,rfl⟩
theorem ret_two {α : Type} {φ : α → Prop} {v : α → Value} {L0 : α → List HP} {fn : Func} {t s : Nat} {u y : Value} (hr : fn.results = #[.tmp t,.tmp s]) (hv : Env.get E t = some u) (hy : Env.get E s = some y) (x : α) (hφ : φ x) (hu : .tuple #[u,y] = v x) (he : Ent L (L0 x)) :
    bodyQ P N fn (fun e L => ∃ L',Ent L L' ∧ RetE φ v L0 e L') .ret E [] L := ⟨rfl,_,res_two hr hv hy,_,he,x,hφ,by rw [hu],rfl⟩
theorem ret_twoV {u y : Value} {L0 : List HP} {fn : Func} {t s : Nat} (hr : fn.results = #[.tmp t,.tmp s]) (hv : Env.get E t = some u) (hy : Env.get E s = some y) (he : Ent L L0) :
    bodyQ P N fn (fun e L => ∃ L',Ent L L' ∧ wF (.tuple #[u,y]) L0 e L') .ret E [] L := ⟨rfl,_,res_two hr hv hy,_,he,rfl,rfl⟩
theorem Ent.nil {L : List HP} : Ent L [] := fun _ _ hs => hs.sub ((List.nil_sublist L).cons_cons _)
end

def ints (l : List Int) : List Value := l.map (.int .i64)
@[simp] theorem length_ints (l : List Int) : (ints l).length = l.length := by simp [ints]
theorem ints_get {l : List Int} {j : Nat} {z : Int} (h : l[j]? = some z) : (ints l)[j]? = some (.int .i64 z) := by simp [ints,h]

section
variable {P : Program} {N : Nat} {rd : Option Nat} {E : Env} {D : List Deferred} {L : List HP} {Q : uF}
theorem J_perm {c : Code} {L' : List HP} (p : L.Perm L') (h : J P N rd c E D L' Q) : J P N rd c E D L Q := xQ (fun F _ hs => hs.perm (p.cons F)) h
theorem JL_perm {all : Array Oper} {i : Nat} {rest : List Oper} {L' : List HP} (p : L.Perm L') (h : JL P N rd all i rest E D L' Q) : JL P N rd all i rest E D L Q := JL_heap (fun F _ hs => hs.perm (p.cons F)) h
theorem wQ {c : Code} (A : HP) {M : List HP} [t : Tk A L M] (h : J P N rd c E D (A :: M) Q) : J P N rd c E D L Q := J_perm t.h h
theorem JL_front {all : Array Oper} {i : Nat} {rest : List Oper} (A : HP) {M : List HP} [t : Tk A L M] (h : JL P N rd all i rest E D (A :: M) Q) : JL P N rd all i rest E D L Q := JL_perm t.h h
end
end Go.Sp

/- Ranges over functions: rounds,what an iterator promises,the statement,and a function's end behind such a statement. -/
namespace Go.Sp
open Go.RowKit

def Yc (P : Program) (l : Nat) (args : Array Value) (L : List HP) (R : Bool → List HP → Prop) : Prop :=
  ∀ (F : HP) (w : World),Sat w (F :: L) → ∃ fn tmps assign body,(Instr.yield l args).run P w = .ok (.round l fn tmps assign body) w ∧
    RoundIn Fence.wide 0 P l fn tmps assign body w fun e w' => ∃ b L',e = .returned (.bool b) ∧ R b L' ∧ Sat w' (F :: L')

theorem Yc.use {P : Program} {l : Nat} {args : Array Value} {K L M : List HP} {R : Bool → List HP → Prop} (h : Yc P l args K R) [hs : Sel K L M] : Yc P l args L fun b L'' => ∃ L',R b L' ∧ L'' = L' ++ M := by
  intro F w s
  have s1 : Sat w (Star (F :: M) :: K) := (Sat.fold (L1 := F :: M)).1 ((s.perm (hs.h.cons F)).perm (List.Perm.cons F List.perm_append_comm))
  obtain ⟨fn,tmps,assign,body,h1,h2⟩ := h _ w s1
  refine ⟨fn,tmps,assign,body,h1,h2.mono ?_⟩
  rintro e w' ⟨b,L',he,hr,s2⟩
  exact ⟨b,_,he,⟨L',hr,rfl⟩,((Sat.fold (L1 := F :: M)).2 s2).perm (List.Perm.cons F List.perm_append_comm)⟩

def SeqC (P : Program) (f : FuncId) (fs cs : List Value) (K : List HP) (xs : List (List Value)) : Prop :=
  ∀ (l : Nat) (σ τ : Type) (I : Nat → σ → HP) (Ix : τ → HP),
    (∀ i x s,xs[i]? = some x → Yc P l x.toArray [I i s] fun b L' => (b = true ∧ ∃ s',L' = [I (i + 1) s']) ∨ (b = false ∧ ∃ s',L' = [Ix s'])) →
    ∀ s0,Ct P f (fs ++ [Value.func (.yield l) #[] #[]] ++ cs).toArray (I 0 s0 :: K) fun e L' => (∃ v,e = .returned v) ∧ ((∃ s,L' = [I xs.length s]) ∨ (∃ s,L' = [Ix s]))

def penv : List Tmp → List Value → Env → Env
  | p :: ps,v :: vs,E => penv ps vs ((p,v) :: E)
  | _,_,E => E
theorem rep_penv {N : Nat} {D : List Deferred} : ∀ (ps : List Tmp) (vs : List Value) (E : Env) (tm : Array Value),(∀ p ∈ ps,p < N) → Rep N E D { tmps := tm,defers := D } →
    Rep N (penv ps vs E) D { tmps := (ps.zip vs).foldl (fun t (p,v) => t.setIfInBounds p v) tm,defers := D } := by
  intro ps
  induction ps with
  | nil => intro vs E tm _ h;cases vs <;> exact h
  | cons p ps ih =>
    intro vs E tm hp h
    cases vs with
    | nil => exact h
    | cons v vs =>
      simp only [penv,List.zip_cons_cons,List.foldl_cons]
      refine ih vs _ _ (fun q hq => hp q (by simp [hq])) ?_
      have := h.put (d := some p) (by simpa [dok] using hp p (by simp)) v
      exact this

def collected (r : Nat) : Deferred := { target := .collected r,args := #[] }

def rndQ {σ τ : Type} (A : HP) (U : σ → List HP) (jc : τ → Code) (V : τ → List HP) : uF
  | .normal,_,_,L => ∃ s,Ent L (A :: U s)
  | .ret,_,_,L => ∃ s,jc s = .ret ∧ Ent L (A :: V s)
  | .exit id,_,_,L => ∃ s,jc s = .exit id ∧ Ent L (A :: V s)
  | .goto t,_,_,L => ∃ s,jc s = .goto t ∧ Ent L (A :: V s)
  | _,_,_,_ => False

section
variable {P : Program} {N : Nat} {rd : Option Nat} {E : Env} {D : List Deferred} {L : List HP} {Q : uF} {next : Env → List Deferred → List HP → Prop}
variable {d : Option Nat} {ty : TypeId} {pos : String} {after : Array Edge} {g : Option (Nat × Bool)}

theorem JO_yield {l : Nat} {x : Operand} {args : Array Operand} {ts : Array TypeId} {vs : List Value} {R : Bool → List HP → Prop} (hf : ev E x = some (.func (.yield l) #[] #[])) (hx : evs E args.toList = some vs)
    (hy : Yc P l vs.toArray L R) (hd : dok N d = true) (h : ∀ b L',R b L' → next (put E d (.bool b)) D L') : JO P N rd ⟨d,.call ⟨.value x,args,ts⟩,ty,pos,after,g⟩ E D L next Q := by
  intro F a w hr hs nx hnx
  obtain ⟨fn,tmps,assign,body,h1,h2⟩ := hy F w hs
  have e : args.map a.eval = vs.toArray := by rw [← hr.evals hx];apply Array.ext';simp
  have hrun : (execOp a.eval ⟨d,.call ⟨.value x,args,ts⟩,ty,pos,after,g⟩).run P w = .ok (.round l fn tmps assign body) w := by
    simp [execOp,resolve,e,hr.eval hf,Deferred.ofValue,invoke,h1]
  refine ⟨fun _ _ => trivial,?_⟩
  rw [Oper.semAt_eq _ _ _ (fun c => by simp),hrun]
  refine ⟨fun h => by simp [FW,Fence.wide] at h,?_⟩
  have h3 : RoundIn (FW rd) 0 P l fn tmps assign body w fun e w' => ∃ b L',e = .returned (.bool b) ∧ R b L' ∧ Sat w' (F :: L') := h2
  refine h3.mono ?_
  rintro e' w' ⟨b,L',rfl,hR,hs'⟩
  exact hnx _ _ _ _ _ (h b L' hR) (hr.put hd _) hs'

theorem JO_yieldI {l : Nat} {x : Operand} {args : Array Operand} {ts : Array TypeId} {vs : List Value} {σ τ : Type} {A : HP} {B : σ → HP} {C : τ → HP} {M : List HP}
    (hy : Yc P l vs.toArray [A] fun b L' => (b = true ∧ ∃ s',L' = [B s']) ∨ (b = false ∧ ∃ s',L' = [C s'])) [Sel [A] L M] (hf : ev E x = some (.func (.yield l) #[] #[])) (hx : evs E args.toList = some vs) (hd : dok N d = true)
    (h1 : ∀ s',next (put E d (.bool true)) D (B s' :: M)) (h2 : ∀ s',next (put E d (.bool false)) D (C s' :: M)) : JO P N rd ⟨d,.call ⟨.value x,args,ts⟩,ty,pos,after,g⟩ E D L next Q :=
  JO_yield hf hx hy.use hd (by
    rintro b L' ⟨_,⟨rfl,s',rfl⟩ | ⟨rfl,s',rfl⟩,rfl⟩
    · exact h1 s'
    · exact h2 s')
theorem seq_end {fn : Func} {A : HP} {σ τ : Type} {B : σ → HP} {C : τ → HP} (hr : fn.results = #[]) (e : Exit) (he : e = .ret ∨ e = .normal) (hA : Ent L [A]) (h : (∃ s,A = B s) ∨ (∃ s,A = C s)) :
    bodyQ P N fn (fun e L => ∃ L',Ent L L' ∧ (∃ v,e = .returned v) ∧ ((∃ s,L' = [B s]) ∨ (∃ s,L' = [C s]))) e E [] L := by
  have h2 : (∃ s,[A] = [B s]) ∨ (∃ s,[A] = [C s]) := by
    rcases h with ⟨s,rfl⟩ | ⟨s,rfl⟩
    · exact .inl ⟨s,rfl⟩
    · exact .inr ⟨s,rfl⟩
  rcases he with rfl | rfl
  · exact ⟨rfl,_,res_none hr,_,hA,⟨_,rfl⟩,h2⟩
  · exact ⟨rfl,_,res_none hr,_,hA,⟨_,rfl⟩,h2⟩

theorem round_yc {l : Nat} {rec : Loop} {σ τ : Type} {Us : List HP} {U : σ → List HP} {jc : τ → Code} {V : τ → List HP} {G : List HP} {x : List Value} (hE : Rep N E [] { tmps := rec.tmps,defers := [] }) (hst : rec.state = .ready)
    (hps : x.length = rec.params.size) (hlt : ∀ p ∈ rec.params,p < N)
    (hbody : J P N (some l) rec.assign (penv rec.params.toList x E) [] Us (thn (fun E' D' L' => J P N (some l) rec.body E' D' (pt l (.loop { rec with state := .busy }) :: L') (rndQ (pt l (.loop { rec with state := .busy })) U jc V)) (fun _ _ _ _ => False))) :
    Yc P l x.toArray [Star (pt l (.loop rec) :: (G ++ Us))] fun b L' => (b = true ∧ ∃ s,L' = [Star (pt l (.loop { rec with state := .ready,pending := none }) :: (G ++ U s))]) ∨ (b = false ∧ ∃ s,L' = [Star (pt l (.loop { rec with state := .done,pending := some (jc s) }) :: (G ++ V s))]) := by
  intro F w hs
  have hs1 : Sat w (pt l (.loop rec) :: (G ++ Us) ++ [F]) := Sat.fold.2 hs.swap
  have hl := hs1.pt_heap
  have hy := run_yield (P := P) (args := x.toArray) hl (by simpa using hps)
  refine ⟨_,_,_,_,hy,roundIn_of_wpIn trivial ?_⟩
  have hrep : Rep N (penv rec.params.toList x E) [] { tmps := (rec.params.zip x.toArray).foldl (fun t (p,v) => t.setIfInBounds p v) rec.tmps,defers := [] } := by
    have := rep_penv rec.params.toList x E rec.tmps (fun p hp => hlt p (by simpa using hp)) hE
    rw [← Array.foldl_toList,Array.toList_zip]
    exact this
  have hs2 : Sat w (Star (F :: pt l (.loop rec) :: G) :: Us) := (Sat.fold (L1 := F :: pt l (.loop rec) :: G)).1 (hs1.perm (by
    simp only [List.cons_append]
    exact (List.perm_append_comm (l₁ := pt l (.loop rec) :: (G ++ Us)) (l₂ := [F]))))
  refine wpIn_mono (hbody _ _ w hrep hs2) ?_
  rintro e a1 w1 ⟨E',D',L',q,r,s⟩
  cases e with
  | normal =>
    have s3 : Sat w1 (pt l (.loop rec) :: (F :: (G ++ L'))) := ((Sat.fold (L1 := F :: pt l (.loop rec) :: G)).2 s).perm (List.Perm.swap _ _ _)
    have hl1 := s3.pt_heap
    refine ⟨_,run_beginRound hl1 hst,?_⟩
    have s4 : Sat (w1.putObj l (.loop { rec with state := .busy })) (pt l (.loop { rec with state := .busy }) :: (F :: (G ++ L'))) := s3.set_pt _
    have s5 : Sat (w1.putObj l (.loop { rec with state := .busy })) (Star (F :: G) :: (pt l (.loop { rec with state := .busy }) :: L')) := (Sat.fold (L1 := F :: G)).1 (s4.perm (by
      simp only [List.cons_append]
      refine (List.Perm.swap _ _ _).trans (List.Perm.cons F ?_)
      exact List.perm_middle.symm))
    refine wpIn_mono (q _ a1 _ r s5) ?_
    have fin : ∀ (w3 : World) (jump : Option Code) (L3 W3 : List HP),Sat w3 (Star (F :: G) :: L3) → Ent L3 (pt l (.loop { rec with state := .busy }) :: W3) →
        (Instr.endRound l jump).run P w3 = .ok (.bool jump.isNone) (w3.putObj l (.loop { rec with state := if jump.isNone then .ready else .done,pending := jump })) ∧
        Sat (w3.putObj l (.loop { rec with state := if jump.isNone then .ready else .done,pending := jump })) [F,Star (pt l (.loop { rec with state := if jump.isNone then .ready else .done,pending := jump }) :: (G ++ W3))] := by
      intro w3 jump L3 W3 h3 he
      have h4 : Sat w3 (pt l (.loop { rec with state := .busy }) :: (F :: (G ++ W3))) := ((Sat.fold (L1 := F :: G)).2 (he _ _ h3)).perm (by
        simp only [List.cons_append]
        refine (List.Perm.cons F List.perm_middle).trans (List.Perm.swap _ _ _))
      have h5 := run_endRound (P := P) jump h4.pt_heap
      have h6 := h4.set_pt (.loop { rec with state := if jump.isNone then .ready else .done,pending := jump })
      refine ⟨h5,?_⟩
      have h7 : Sat (w3.putObj l (.loop { rec with state := if jump.isNone then .ready else .done,pending := jump })) ((pt l (.loop { rec with state := if jump.isNone then .ready else .done,pending := jump }) :: (G ++ W3)) ++ [F]) := h6.perm (by
        refine List.Perm.cons _ ?_
        exact (List.perm_append_comm (l₁ := [F]) (l₂ := G ++ W3)))
      exact ((Sat.fold).1 h7).swap
    rintro e a3 w3 ⟨E3,D3,L3,q3,r3,s6⟩
    cases e with
    | normal =>
      obtain ⟨s',he⟩ := q3
      obtain ⟨h1,h2⟩ := fin w3 none L3 _ s6 he
      exact ⟨_,_,h1,true,_,rfl,.inl ⟨rfl,s',rfl⟩,h2⟩
    | ret =>
      obtain ⟨s',hj,he⟩ := q3
      obtain ⟨h1,h2⟩ := fin w3 (some .ret) L3 _ s6 he
      exact ⟨_,_,h1,false,_,rfl,.inr ⟨rfl,s',by rw [hj];rfl⟩,h2⟩
    | exit id =>
      obtain ⟨s',hj,he⟩ := q3
      obtain ⟨h1,h2⟩ := fin w3 (some (.exit id)) L3 _ s6 he
      exact ⟨_,_,h1,false,_,rfl,.inr ⟨rfl,s',by rw [hj];rfl⟩,h2⟩
    | goto t =>
      obtain ⟨s',hj,he⟩ := q3
      obtain ⟨h1,h2⟩ := fin w3 (some (.goto t)) L3 _ s6 he
      exact ⟨_,_,h1,false,_,rfl,.inr ⟨rfl,s',by rw [hj];rfl⟩,h2⟩
    | panic ch => exact q3.elim
    | outgrown => exact q3.elim
  | exit id => exact q.elim
  | goto t => exact q.elim
  | ret => exact q.elim
  | panic ch => exact q.elim
  | outgrown => exact q.elim

theorem J_range {σ τ : Type} {gq : Operand} {ps : Array Tmp} {assign body : Code} {f : FuncId} [hf : CF P f] {fs cs : List Value} {K : List HP} {xs : List (List Value)} (U : Nat → σ → List HP) (jc : τ → Code) (V : τ → List HP)
    (hg : ev E gq = some (.func (.func f) fs.toArray cs.toArray)) (hseq : SeqC P f fs cs K xs) (hps : ∀ x ∈ xs,x.length = ps.size) (hlt : ∀ p ∈ ps,p < N) (s0 : σ) (hL : Ent L (U 0 s0 ++ K))
    (hbody : ∀ (l : Nat) (rec : Loop) (i : Nat) (x : List Value) (s : σ),xs[i]? = some x →
      J P N (some l) assign (penv ps.toList x E) [] (U i s) (thn (fun E' D' L' => J P N (some l) body E' D' (pt l (.loop rec) :: L') (rndQ (pt l (.loop rec)) (U (i + 1)) jc V)) (fun _ _ _ _ => False)))
    (hdone : ∀ r s,Q .normal E (collected r :: D) (pt r (.deferred (some [])) :: U xs.length s))
    (hstop : ∀ r s,J P N none (jc s) E (collected r :: D) (pt r (.deferred (some [])) :: V s) Q) : J P N none (.rangeFunc gq ps assign body) E D L Q := by
  intro F a w hr hs
  refine wpIn_rangeFunc ?_
  intro fn _
  obtain ⟨rec,hrec⟩ : ∃ rec : Loop,rec = { state := .ready,pending := none,fn,tmps := a.tmps,params := ps,assign,body,defers := w.heap.size } := ⟨_,rfl⟩
  have hs1 := ((hL F w hs).new (.deferred (some []))).new (.loop rec)
  have hsz : ({ w with heap := w.heap.push (.deferred (some [])) } : World).heap.size = w.heap.size + 1 := by simp
  rw [hsz] at hs1
  have hargs : (resolve a.eval (rangeCall gq (w.heap.size + 1)) 0).run P ((w.alloc (.deferred (some []))).alloc (.loop rec)) = .ok { target := .fn (.func f) cs.toArray,args := (fs ++ [Value.func (.yield (w.heap.size + 1)) #[] #[]]).toArray } ((w.alloc (.deferred (some []))).alloc (.loop rec)) := by
    have hev := hr.eval hg
    have hy : a.eval (.const (.func (.yield (w.heap.size + 1)) #[] #[])) = .func (.yield (w.heap.size + 1)) #[] #[] := rfl
    simp [resolve,rangeCall,hev,hy,Deferred.ofValue]
  refine ⟨w.heap.size + 1,[collected w.heap.size],(w.alloc (.deferred (some []))).alloc (.loop rec),{ target := .fn (.func f) cs.toArray,args := (fs ++ [Value.func (.yield (w.heap.size + 1)) #[] #[]]).toArray },(w.alloc (.deferred (some []))).alloc (.loop rec),f,
    (fs ++ [Value.func (.yield (w.heap.size + 1)) #[] #[]] ++ cs).toArray,(w.alloc (.deferred (some []))).alloc (.loop rec),?_,hargs,fun _ _ => trivial,?_,fun h => by simp [FW,Fence.wide] at h,?_⟩
  · rw [hrec];exact run_enterLoop_outer _ _ _ _ _
  · simp [invoke,hf.h]
  · have hround := hseq (w.heap.size + 1) σ τ (fun i s => Star (pt (w.heap.size + 1) (.loop rec) :: ([pt w.heap.size (.deferred (some []))] ++ U i s)))
      (fun s => Star (pt (w.heap.size + 1) (.loop { rec with state := .done,pending := some (jc s) }) :: ([pt w.heap.size (.deferred (some []))] ++ V s))) (fun i x s hx => by
        have h1 := round_yc (P := P) (N := N) (E := E) (l := w.heap.size + 1) (rec := rec) (Us := U i s) (U := U (i + 1)) (jc := jc) (V := V) (G := [pt w.heap.size (.deferred (some []))]) (x := x)
          ⟨by rw [hrec];exact hr.1,rfl,by rw [hrec];exact hr.2.2⟩ (by rw [hrec]) (by rw [hrec];exact hps x (List.mem_of_getElem? hx)) (by rw [hrec];exact hlt) (by
            have := hbody (w.heap.size + 1) { rec with state := .busy } i x s hx
            rw [hrec] at this ⊢
            exact this)
        have e1 : ({ rec with state := .ready,pending := none } : Loop) = rec := by rw [hrec]
        rw [e1] at h1
        exact h1) s0
    have hs2 : Sat ((w.alloc (.deferred (some []))).alloc (.loop rec)) (F :: Star (pt (w.heap.size + 1) (.loop rec) :: ([pt w.heap.size (.deferred (some []))] ++ U 0 s0)) :: K) := by
      have h3 : Sat ((w.alloc (.deferred (some []))).alloc (.loop rec)) ((pt (w.heap.size + 1) (.loop rec) :: ([pt w.heap.size (.deferred (some []))] ++ U 0 s0)) ++ (F :: K)) := hs1.perm (by
        refine List.Perm.cons _ ?_
        simp only [List.cons_append,List.nil_append]
        refine List.Perm.cons _ ?_
        exact List.perm_middle.symm)
      exact ((Sat.fold).1 h3).swap
    refine fw_wide none ((hround F _ hs2).mono ?_)
    rintro e w3 ⟨hne,L',⟨⟨v,rfl⟩,⟨s,rfl⟩ | ⟨s,rfl⟩⟩,hs3⟩
    · have h4 : Sat w3 (pt (w.heap.size + 1) (.loop rec) :: (F :: (pt w.heap.size (.deferred (some [])) :: U xs.length s))) := ((Sat.fold).2 hs3.swap).perm (by
        simp only [List.cons_append,List.nil_append]
        refine List.Perm.cons _ ?_
        exact (List.perm_append_comm (l₁ := pt w.heap.size (.deferred (some [])) :: U xs.length s) (l₂ := [F])))
      refine ⟨none,_,by have := run_endLoop (P := P) h4.pt_heap (by rw [hrec];simp);rw [this,hrec],?_⟩
      exact ⟨E,_,_,hdone _ s,⟨hr.1,by rw [hr.2.1];rfl,hr.2.2⟩,(h4.set_pt _).tail⟩
    · have h4 : Sat w3 (pt (w.heap.size + 1) (.loop { rec with state := .done,pending := some (jc s) }) :: (F :: (pt w.heap.size (.deferred (some [])) :: V s))) := ((Sat.fold).2 hs3.swap).perm (by
        simp only [List.cons_append,List.nil_append]
        refine List.Perm.cons _ ?_
        exact (List.perm_append_comm (l₁ := pt w.heap.size (.deferred (some [])) :: V s) (l₂ := [F])))
      refine ⟨some (jc s),_,by have := run_endLoop (P := P) h4.pt_heap (by simp);rw [this],?_⟩
      exact hstop _ s F _ _ ⟨hr.1,by rw [hr.2.1];rfl,hr.2.2⟩ (h4.set_pt _).tail

def MarksQ : List Deferred → List HP → (List HP → Prop) → Prop
  | [],L,K => K L
  | d :: D,L,K => ∃ r M,d.target = .collected r ∧ L.Perm (pt r (.deferred (some [])) :: M) ∧ MarksQ D M K
def bodyQM (P : Program) (N : Nat) (fn : Func) (R : Ending → List HP → Prop) : uF
  | .normal,E,D,L | .ret,E,D,L => MarksQ D L fun L0 => ∃ v,Res P N fn E L0 v ∧ ∃ L',Ent L0 L' ∧ R (.returned v) L'
  | _,_,_,_ => False
theorem leaves_marks {fn : Func} {R : Ending → List HP → Prop} {F : HP} : ∀ (D : List Deferred) (L : List HP) (a : Act) (w : World) (E : Env),Rep N E a.defers a → Sat w (F :: L) →
    MarksQ D L (fun L0 => ∃ v,Res P N fn E L0 v ∧ ∃ L',Ent L0 L' ∧ R (.returned v) L') →
    LeavesInM Fence.wide 0 P fn a.tmps (fun e w' => e ≠ .outgrown ∧ ∃ L',R e L' ∧ Sat w' (F :: L')) D .returning w := by
  intro D
  induction D with
  | nil =>
    intro L a w E hr hs ⟨v,hv,L',he,hR⟩
    exact ⟨v,hv F a w _ hr hs,by simp,L',hR,he F w hs⟩
  | cons d D ih =>
    intro L a w E hr hs ⟨r,M,ht,hp,hq⟩
    have hs1 : Sat w (pt r (.deferred (some [])) :: F :: M) := (hs.perm (hp.cons F)).swap
    refine ⟨by simp,.inl ⟨r,_,ht,run_takeDeferred hs1.pt_heap,?_⟩⟩
    exact ih M a _ E hr (hs1.set_pt _).tail hq
theorem endM_none {α : Type} {φ : α → Prop} {L0 : α → List HP} {r : Nat} {M : List HP} [h : Tk (pt r (.deferred (some []))) L M] {fn : Func} (hr : fn.results = #[]) (x : α) (hφ : φ x) (he : Ent M (L0 x)) :
    bodyQM P N fn (RetE φ (fun _ => .tuple #[]) L0) .normal E [collected r] L := ⟨r,M,rfl,h.h,_,res_none hr,_,he,x,hφ,rfl,rfl⟩
theorem fn_retM {f : FuncId} {fn : Func} {c : Code} {vs : List Value} {R : Ending → List HP → Prop} (hf : P.funcs[f]? = some fn) (hb : fn.body = some c) (hn : fn.ntmps = N) (hN : vs.length ≤ N)
    (h : J P N none c (argEnv 0 vs) [] L (bodyQM P N fn R)) : Ct P f vs.toArray L R := by
  intro F w hs
  refine (callsIn_wide (n := 0)).1 (callsIn_of_wp_marks hf hb trivial ?_ rfl)
  have h1 := h F _ w (rep_args vs hN) hs
  rw [hn]
  refine wpIn_mono h1 ?_
  rintro e a w' ⟨E,D,L',q,r,s⟩
  cases e with
  | normal => rw [← r.2.1] at q;exact leaves_marks _ L' a w' E ⟨r.1,rfl,r.2.2⟩ s q
  | ret => rw [← r.2.1] at q;exact leaves_marks _ L' a w' E ⟨r.1,rfl,r.2.2⟩ s q
  | panic ch => exact q.elim
  | exit id => exact q.elim
  | goto l => exact q.elim
  | outgrown => exact q.elim
end
end Go.Sp

/- Owned rows opened and frozen in the middle of code;rows of structs. -/
namespace Go.Sp
open Go.RowKit

theorem Sat.own_view {w : World} {e sz : Nat} {v : Value} {n : Nat} {cs : List Value} {L : List HP} (h : Sat w (yC e sz v n cs :: L)) : ∃ p cap,v = .slice p n cap ∧ Sat w (Vw sz (.slice p n cap) n cs :: L) := by
  have h1 := h.own_freeze
  obtain ⟨_,_,p,cap,rfl,_⟩ : cs.length = n * sz ∧ n ≤ maxLen ∧ ∃ p cap,v = .slice p n cap ∧ True := h1.out (fun k ⟨a,b,p,cap,c,_⟩ => ⟨a,b,p,cap,c,trivial⟩)
  exact ⟨p,cap,rfl,h1⟩

section
variable {P : Program} {N : Nat} {rd : Option Nat} {E : Env} {D : List Deferred} {L : List HP} {Q : uF}
theorem J_view {c : Code} {e sz : Nat} {v : Value} {n : Nat} {cs : List Value} (h : ∀ p cap,v = .slice p n cap → J P N rd c E D (Vw sz (.slice p n cap) n cs :: L) Q) : J P N rd c E D (yC e sz v n cs :: L) Q := by
  intro F a w hr hs
  obtain ⟨p,cap,hv,hs'⟩ := hs.swap.own_view
  exact h p cap hv F a w hr hs'.swap
theorem JL_say {all : Array Oper} {i : Nat} {rest : List Oper} {A : HP} {φ : Prop} (hA : ∀ k,A k → φ) (h : φ → JL P N rd all i rest E D (A :: L) Q) : JL P N rd all i rest E D (A :: L) Q := JL_fact (fun _ _ hs => hs.tail.out hA) h
theorem J_say {c : Code} {A : HP} {φ : Prop} (hA : ∀ k,A k → φ) (h : φ → J P N rd c E D (A :: L) Q) : J P N rd c E D (A :: L) Q := wE (fun _ _ hs => hs.tail.out hA) h
end

section
variable {P : Program} {N : Nat} {rd : Option Nat} {E : Env} {D : List Deferred} {L : List HP} {Q : uF}
def gslot (all : Array Oper) (j : Nat) : Option Nat := match all[j]? with | some o => o.dst | none => none
def gnone (all : Array Oper) (E : Env) (j : Nat) : Bool :=
  match all[j]? with
  | some o => match o.dst with
    | some d => match Env.get E d with | some (.tuple _) => true | _ => false
    | none => false
  | none => false
theorem JL_passN {all : Array Oper} {i : Nat} {o : Oper} {rest : List Oper} {j : Nat} {want : Bool} (hg : o.guard = some (j,want)) (hv : gnone all E j = true) (hd : dok N o.dst = true)
    (h : JL P N rd all (i + 1) rest (put E o.dst undef) D L Q) : JL P N rd all i (o :: rest) E D L Q := by
  intro F a w hr hs hdr
  obtain ⟨h1,h2⟩ := drop_cons hdr
  simp only [List.length_cons,List.range'_succ,wpOpsIn]
  have h3 : all[i]? = some o := by simpa using h1
  have h4 : yielded all a.tmps j = none := by
    unfold gnone at hv
    split at hv
    · rename_i o' ho
      split at hv
      · rename_i d' hd'
        split at hv
        · rename_i vs hb
          have := hr.2.2 d' _ hb
          simp [yielded,ho,hd',this]
        · cases hv
      · cases hv
    · cases hv
  simp only [h3,Region.wanted,hg,h4,show ((none : Option Bool) == some want) = false from rfl,if_false,Bool.false_eq_true]
  exact ⟨fun f _ => trivial,h F (a.put o.dst undef) w (hr.put hd undef) hs h2⟩
theorem JL_guardP {all : Array Oper} {i : Nat} {o : Oper} {rest : List Oper} {j : Nat} {want : Bool} {d : Nat} {p : Prop} {_ : Decidable p} (_ : o.guard = some (j,want)) (_ : gslot all j = some d) (hb : Env.get E d = some (.bool (decide p)))
    (h1 : p → JL P N rd all i (o :: rest) ((d,.bool true) :: E) D L Q) (h2 : ¬ p → JL P N rd all i (o :: rest) ((d,.bool false) :: E) D L Q) : JL P N rd all i (o :: rest) E D L Q := JL_splitP d hb h1 h2
end

section
variable {P : Program} {N : Nat} {rd : Option Nat} {E : Env} {D : List Deferred} {L : List HP} {Q : uF}
def cutQ (E' : Env) (D' : List Deferred) (L' : List HP) (Q : uF) : uF
  | .normal,E,D,L => Sub E' E ∧ D = D' ∧ Ent L L'
  | e,E,D,L => Q e E D L
theorem J_cut {c : Code} (E' : Env) (L' : List HP) (h : J P N rd c E D L (cutQ E' D L' Q)) (k : Q .normal E' D L') : J P N rd c E D L Q := by
  intro F a w hr hs
  refine wpIn_mono (h F a w hr hs) ?_
  rintro e a w ⟨E1,D1,L1,q,r,s⟩
  cases e with
  | normal => obtain ⟨h1,rfl,h3⟩ := q;exact ⟨E',_,L',k,r.sub h1,h3 F w s⟩
  | exit id => exact ⟨E1,D1,L1,q,r,s⟩
  | goto l => exact ⟨E1,D1,L1,q,r,s⟩
  | ret => exact ⟨E1,D1,L1,q,r,s⟩
  | panic ch => exact ⟨E1,D1,L1,q,r,s⟩
  | outgrown => exact ⟨E1,D1,L1,q,r,s⟩
def cutX {α : Sort _} (E' : α → Env) (D' : List Deferred) (L' : α → List HP) (Q : uF) : uF
  | .normal,E,D,L => ∃ x,Sub (E' x) E ∧ D = D' ∧ Ent L (L' x)
  | e,E,D,L => Q e E D L
theorem uI {α : Sort _} {c : Code} (E' : α → Env) (L' : α → List HP) (h : J P N rd c E D L (cutX E' D L' Q)) (k : ∀ x,Q .normal (E' x) D (L' x)) : J P N rd c E D L Q := by
  intro F a w hr hs
  refine wpIn_mono (h F a w hr hs) ?_
  rintro e a w ⟨E1,D1,L1,q,r,s⟩
  cases e with
  | normal => obtain ⟨x,h1,rfl,h3⟩ := q;exact ⟨E' x,_,L' x,k x,r.sub h1,h3 F w s⟩
  | exit id => exact ⟨E1,D1,L1,q,r,s⟩
  | goto l => exact ⟨E1,D1,L1,q,r,s⟩
  | ret => exact ⟨E1,D1,L1,q,r,s⟩
  | panic ch => exact ⟨E1,D1,L1,q,r,s⟩
  | outgrown => exact ⟨E1,D1,L1,q,r,s⟩
theorem wpOps_mono {F : Fence} {n : Nat} {all : Array Oper} {Q1 Q2 : Exit → Act → World → Prop} (hq : ∀ e a w,Q1 e a w → Q2 e a w) : ∀ (l : List Nat) (a : Act) (w : World),wpOpsIn F n P all Q1 l a w → wpOpsIn F n P all Q2 l a w := by
  intro l
  induction l with
  | nil => exact fun a w h => hq _ _ _ h
  | cons i rest ih =>
    intro a w h
    simp only [wpOpsIn] at h ⊢
    split at h
    · exact ih _ _ h
    · rename_i o ho
      by_cases hw : Region.wanted o (yielded all a.tmps) = true
      · simp only [hw,if_true] at h ⊢
        refine ⟨h.1,?_⟩
        have h2 := h.2
        unfold Oper.uponIn at h2 ⊢
        split at h2
        · exact ih _ _ h2
        · exact ih _ _ h2
        · exact ih _ _ h2
        · refine ⟨h2.1,h2.2.mono ?_⟩
          intro e w'' h3
          cases e with
          | returned v => exact ih _ _ h3
          | panicked ch => exact hq _ _ _ h3
          | outgrown => exact let ⟨a,w,h4⟩ := h3;⟨a,w,hq _ _ _ h4⟩
        · exact ⟨h2.1,h2.2.mono fun v w'' h3 => ih _ _ h3⟩
        · refine ⟨h2.1,h2.2.mono ?_⟩
          intro e w'' h3
          cases e with
          | returned v => exact ih _ _ h3
          | panicked ch => exact hq _ _ _ h3
          | outgrown => exact let ⟨a,w,h4⟩ := h3;⟨a,w,hq _ _ _ h4⟩
        · exact hq _ _ _ h2
        · exact h2.elim
      · simp only [hw,if_false,Bool.false_eq_true] at h ⊢
        exact ⟨h.1,ih _ _ h.2⟩
theorem cut_lift {E' : Env} {D' : List Deferred} {L' : List HP} (k : Q .normal E' D' L') (F : HP) (e : Exit) (a : Act) (w : World) (h : lift N F (cutQ E' D' L' Q) e a w) : lift N F Q e a w := by
  obtain ⟨E1,D1,L1,q,r,s⟩ := h
  cases e with
  | normal => obtain ⟨h1,rfl,h3⟩ := q;exact ⟨E',_,L',k,r.sub h1,h3 F w s⟩
  | exit id => exact ⟨E1,D1,L1,q,r,s⟩
  | goto l => exact ⟨E1,D1,L1,q,r,s⟩
  | ret => exact ⟨E1,D1,L1,q,r,s⟩
  | panic ch => exact ⟨E1,D1,L1,q,r,s⟩
  | outgrown => exact ⟨E1,D1,L1,q,r,s⟩
theorem JL_cut {all : Array Oper} {i : Nat} {rest : List Oper} (E' : Env) (L' : List HP) (h : JL P N rd all i rest E D L (cutQ E' D L' Q)) (k : Q .normal E' D L') : JL P N rd all i rest E D L Q :=
  fun F a w hr hs hd => wpOps_mono (cut_lift k F) _ _ _ (h F a w hr hs hd)
theorem sub_bool {k : Nat} {b c : Bool} {E' E : Env} (h : Env.get E k = some (.bool b)) (hb : b = c) (hs : Sub E' E) : Sub ((k,.bool c) :: E') E := zI (hb ▸ h) hs
end

theorem length_flat {α : Type} {k : Nat} {f : α → List Value} (hf : ∀ x,(f x).length = k) : ∀ xs : List α,(xs.flatMap f).length = xs.length * k := by
  intro xs
  induction xs with
  | nil => simp
  | cons x xs ih => rw [List.flatMap_cons,List.length_append,hf,ih,List.length_cons,Nat.add_mul];omega
theorem yY {α : Type} {k : Nat} {f : α → List Value} (hf : ∀ x,(f x).length = k) : ∀ (xs : List α) (j i : Nat) (x : α),i < k → xs[j]? = some x → (xs.flatMap f)[j * k + i]? = (f x)[i]? := by
  intro xs
  induction xs with
  | nil => intro j i x _ hx;simp at hx
  | cons y xs ih =>
    intro j i x hi hx
    rw [List.flatMap_cons]
    cases j with
    | zero =>
      simp at hx
      subst hx
      rw [Nat.zero_mul,Nat.zero_add,List.getElem?_append_left (by rw [hf];exact hi)]
    | succ j =>
      simp at hx
      rw [List.getElem?_append_right (by rw [hf,Nat.add_mul];omega),hf,show (j + 1) * k + i - k = j * k + i from by rw [Nat.add_mul];omega]
      exact ih j i x hi hx
theorem star_pers {h : Part} : ∀ {L : List HP},(∀ A ∈ L,Pers A ∧ A h) → Star L h := by
  intro L
  induction L with
  | nil => exact fun _ => trivial
  | cons A L ih =>
    intro hA
    have h1 := hA A (by simp)
    exact ⟨ice h,h,ice_comp h,ice_le h,Le.refl h,h1.1 h h1.2,ih fun B hB => hA B (by simp [hB])⟩
end Go.Sp

/- Maps from numbers,of the call's own. -/
namespace Go.Sp
open Go.RowKit

section
variable {P : Program} {N : Nat} {rd : Option Nat} {E : Env} {D : List Deferred} {L : List HP} {Q : uF} {next : Env → List Deferred → List HP → Prop}
variable {d : Option Nat} {ty : TypeId} {pos : String} {after : Array Edge} {g : Option (Nat × Bool)}
end
end Go.Sp

/- Shifts;slices of slices. -/
namespace Go.Sp
open Go.RowKit

theorem fold_set : ∀ (cs : List Value) (j : Nat) (pre mid post : List Value),mid.length = j → cs.length ≤ post.length →
    ((cs.zipIdx j).foldl (fun (acc : Array Value) (x : Value × Nat) => acc.setIfInBounds (pre.length + x.2) x.1) (pre ++ mid ++ post).toArray) = (pre ++ mid ++ cs ++ post.drop cs.length).toArray := by
  intro cs
  induction cs with
  | nil => intro j pre mid post _ _;simp
  | cons c cs ih2 =>
    intro j pre mid post hm hl
    obtain ⟨p,post,rfl⟩ : ∃ p l,post = p :: l := by cases post with | nil => simp at hl | cons p l => exact ⟨p,l,rfl⟩
    have hset : (pre ++ mid ++ p :: post).set (pre.length + j) c = pre ++ (mid ++ [c]) ++ post := by
      rw [← hm,← List.length_append,List.set_append_right _ _ (Nat.le_refl _)]
      simp
    simp only [List.zipIdx_cons,List.foldl_cons,List.setIfInBounds_toArray,hset]
    rw [ih2 (j + 1) pre (mid ++ [c]) post (by simp [hm]) (by simpa using hl)]
    simp
def fillL (pl : List (Nat × Nat)) : List Value → List (Nat × Value) → Option (List Value)
  | cells,[] => some cells
  | cells,(i,v) :: rest => match pl[i]? with
    | none => none
    | some (off,size) => match Nat.beq v.cells.toList.length size,Nat.ble (off + size) cells.length with
      | true,true => fillL pl (cells.take off ++ v.cells.toList ++ cells.drop (off + size)) rest
      | _,_ => none
theorem fill_eq (pl : List (Nat × Nat)) : ∀ (parts : List (Nat × Value)) (cells cs : List Value),fillL pl cells parts = some cs → Instr.fill (fun i => pl[i]?) cells.toArray parts = some cs.toArray := by
  intro parts
  induction parts with
  | nil => intro cells cs h;simp [fillL] at h;simp [Instr.fill,h]
  | cons p parts ih =>
    intro cells cs h
    obtain ⟨i,v⟩ := p
    simp only [fillL] at h
    simp only [Instr.fill]
    cases hp : pl[i]? with
    | none => simp [hp] at h
    | some q =>
      obtain ⟨off,size⟩ := q
      simp only [hp] at h ⊢
      split at h
      · rename_i h1 h2
        have h1 := Nat.eq_of_beq_eq_true h1
        have h2 := Nat.le_of_ble_eq_true h2
        have h1' : v.cells.size = size := by simpa using h1
        have hc : ¬ ((v.cells.size ≠ size || off + v.cells.size > cells.toArray.size) = true) := by simp [h1'];omega
        rw [if_neg hc]
        have hf := fold_set v.cells.toList 0 (cells.take off) [] (cells.drop off) rfl (by simp;omega)
        have ho : (cells.take off).length = off := by simp;omega
        simp only [List.append_nil,List.take_append_drop,ho,List.drop_drop,h1] at hf
        have : (v.cells.zipIdx.foldl (fun (cs : Array Value) (x : Value × Nat) => cs.setIfInBounds (off + x.2) x.1) cells.toArray) = (cells.take off ++ v.cells.toList ++ cells.drop (off + size)).toArray := by
          rw [← hf,← Array.foldl_toList,Array.toList_zipIdx]
        rw [this]
        exact ih _ _ h
      · cases h
def placesOf (P : Program) (t : TypeId) : Option (List (Nat × Nat)) := match P.underlying t with
  | some (.struct fs) => fs.toList.mapM fun f => (P.info? f.type).map fun i => (f.offset,i.size)
  | _ => none
class TB (P : Program) (t : TypeId) (pl : outParam (List (Nat × Nat))) : Prop where h : placesOf P t = some pl
def pevs (E : Env) : List (Nat × Operand) → Option (List (Nat × Value))
  | [] => some []
  | (i,x) :: l => match ev E x,pevs E l with
    | some v,some vs => some ((i,v) :: vs)
    | _,_ => none
theorem Rep.pevs {N : Nat} {E : Env} {D : List Deferred} {a : Act} (hr : Rep N E D a) : ∀ {l : List (Nat × Operand)} {vs : List (Nat × Value)},Sp.pevs E l = some vs → l.map (fun x => (x.1,a.eval x.2)) = vs := by
  intro l
  induction l with
  | nil => intro vs h;simp [Sp.pevs] at h;simp [h]
  | cons p l ih =>
    intro vs h
    obtain ⟨i,x⟩ := p
    simp only [Sp.pevs] at h
    split at h
    · rename_i v vs' h1 h2
      cases h
      simp [hr.eval h1,ih h2]
    · cases h
theorem run_places {P : Program} (fs : List Field) (pl : List (Nat × Nat)) (h : (fs.mapM fun f => (P.info? f.type).map fun i => (f.offset,i.size)) = some pl) (w : World) : (fs.mapM fun f => Prod.mk f.offset <$> sizeOf f.type : Sem (List (Nat × Nat))).run P w = .ok pl w := by
  induction fs generalizing pl with
  | nil => simp at h;simp [← h]
  | cons f fs ih =>
    rw [List.mapM_cons] at h
    simp only [Option.bind_eq_bind,Option.bind_eq_some_iff,Option.map_eq_some_iff,Option.pure_def,Option.some.injEq] at h
    obtain ⟨q,⟨i,hi,rfl⟩,ps,hps,rfl⟩ := h
    rw [List.mapM_cons]
    simp [vK hi,ih ps hps]

section
variable {P : Program} {N : Nat} {rd : Option Nat} {E : Env} {D : List Deferred} {L : List HP} {Q : uF} {next : Env → List Deferred → List HP → Prop}
variable {d : Option Nat} {ty : TypeId} {pos : String} {after : Array Edge} {g : Option (Nat × Bool)}
theorem yG {t : TypeId} {zc : List Value} {n k : Nat} [TI P t (.agg zc.toArray) n k] {pl : List (Nat × Nat)} [TB P t pl] {parts : Array (Nat × Operand)} {vs : List (Nat × Value)} {cs : List Value} (hp : pevs E parts.toList = some vs) (hf : fillL pl zc vs = some cs)
    (hd : dok N d = true) (h : next (put E d (.agg cs.toArray)) D L) : JO P N rd ⟨d,.build t parts,ty,pos,after,g⟩ E D L next Q :=
  JO_value (fun c => by simp) hd fun F a w hr hs => ⟨_,w,L,by
    obtain ⟨i,h1,h2,h3,h4⟩ := TI.h (P := P) (t := t) (z := .agg zc.toArray) (n := n) (b := k)
    have hpl := TB.h (P := P) (t := t) (pl := pl)
    unfold placesOf at hpl
    cases hu : P.underlying t with
    | none => simp [hu] at hpl
    | some td =>
      cases td with
      | struct fs =>
        simp only [hu] at hpl
        have h5 := run_places _ _ hpl w
        have h6 := fill_eq pl vs zc cs hf
        have h7 := hr.pevs hp
        have h8 : (fs.mapM fun f => Prod.mk f.offset <$> sizeOf f.type : Sem (Array (Nat × Nat))).run P w = .ok pl.toArray w := by
          rw [Array.mapM_eq_mapM_toList]
          simp only [Sem.run_map,h5]
          rfl
        simp [execOp,Instr.build,run_zeroValue' h1 h2,yM hu,h8,Value.cells,Array.toList_map,h7,h6]
      | _ => simp [hu] at hpl,hs,h⟩
theorem run_loadVarW {t n : TypeId} [TA P t n] {b : Nat} {cs : List Value} {bt : TypeId} {fz : Nat × Nat} [hb : HB L b (.cells cs.toArray bt fz)] (hn : cs.length = n) {F : HP} {w : World} (hs : Sat w (F :: L)) : (loadVar t ⟨b,0,none⟩).run P w = .ok (.agg cs.toArray) w := by
  obtain ⟨_,i,hi,hsz⟩ := TA.h (P := P) (t := t) (n := n)
  have h1 := run_loadCells_block (P := P) (off := 0) (n := n) (hb.h F w hs) (by omega)
  rw [List.drop_zero,List.take_of_length_le (by omega)] at h1
  simp [loadVar,run_isAggA (P := P) (t := t) (n := n),vK hi,hsz,h1]
theorem wT {fn : Func} {a t n : Nat} [TA P t n] {b : Nat} {cs : List Value} {bt : TypeId} {fz : Nat × Nat} (h : fn.results = #[.cell a t]) (hv : Env.get E a = some (.pointer (some ⟨b,0,none⟩))) [hb : HB L b (.cells cs.toArray bt fz)] (hn : cs.length = n) : Res P N fn E L (.agg cs.toArray) := fun F c w _ hr hs => by
  have h1 : (c.tmps.getD a undef) = .pointer (some ⟨b,0,none⟩) := hr.eval (x := .tmp a) hv
  have h2 := run_loadVarW (P := P) (L := L) (t := t) (n := n) (b := b) (cs := cs) (bt := bt) (fz := fz) hn hs
  have h1 := Array.getD_eq_getD_getElem? .. ▸ h1
  simp [results,h,h1,asAddr,h2]
end
end Go.Sp

/- What the rules' classes tell of this seat's types and functions. Printed by facts.py,a program of this claim's own. -/
namespace Go.Proofs.YtickblndgihoeaaGreatDoor
open Go Go.Sp
instance i1 : TI Tryz.prog 1 (.nilFunc) 1 8 := TI.mk' (by kernel_rfl)
instance o1 : T1 Tryz.prog 1 := T1.mk' (by kernel_rfl)
instance u2 : TU Tryz.prog 2 (.int .i64) := ⟨by kernel_rfl⟩
instance i2 : TI Tryz.prog 2 (.int .i64 0) 1 8 := TI.mk' (by kernel_rfl)
instance o2 : T1 Tryz.prog 2 := T1.mk' (by kernel_rfl)
instance u3 : TU Tryz.prog 3 (.int .i64) := ⟨by kernel_rfl⟩
instance i3 : TI Tryz.prog 3 (.int .i64 0) 1 8 := TI.mk' (by kernel_rfl)
instance o3 : T1 Tryz.prog 3 := T1.mk' (by kernel_rfl)
instance u4 : TU Tryz.prog 4 .bool := ⟨by kernel_rfl⟩
instance i4 : TI Tryz.prog 4 (.bool false) 1 1 := TI.mk' (by kernel_rfl)
instance o4 : T1 Tryz.prog 4 := T1.mk' (by kernel_rfl)
instance u5 : TU Tryz.prog 5 (.int .u8) := ⟨by kernel_rfl⟩
instance i5 : TI Tryz.prog 5 (.int .u8 0) 1 1 := TI.mk' (by kernel_rfl)
instance o5 : T1 Tryz.prog 5 := T1.mk' (by kernel_rfl)
instance b7 : TB Tryz.prog 7 [(0,1),(1,1),(2,1),(3,1)] := ⟨by kernel_rfl⟩
instance u8 : TU Tryz.prog 8 (.struct (structFields Tryz.prog 8)) := ⟨by kernel_rfl⟩
instance u9 : TU Tryz.prog 9 .string := ⟨by kernel_rfl⟩
instance i9 : TI Tryz.prog 9 (.string ⟨#[]⟩) 1 16 := TI.mk' (by kernel_rfl)
instance o9 : T1 Tryz.prog 9 := T1.mk' (by kernel_rfl)
instance u16 : TU Tryz.prog 16 (.pointer 297) := ⟨by kernel_rfl⟩
instance u22 : TU Tryz.prog 22 (.slice 58) := ⟨by kernel_rfl⟩
instance i22 : TI Tryz.prog 22 (.slice none 0 0) 1 24 := TI.mk' (by kernel_rfl)
instance o22 : T1 Tryz.prog 22 := T1.mk' (by kernel_rfl)
instance u23 : TU Tryz.prog 23 (.slice 50) := ⟨by kernel_rfl⟩
instance i23 : TI Tryz.prog 23 (.slice none 0 0) 1 24 := TI.mk' (by kernel_rfl)
instance o23 : T1 Tryz.prog 23 := T1.mk' (by kernel_rfl)
instance u24 : TU Tryz.prog 24 (.slice 60) := ⟨by kernel_rfl⟩
instance i24 : TI Tryz.prog 24 (.slice none 0 0) 1 24 := TI.mk' (by kernel_rfl)
instance o24 : T1 Tryz.prog 24 := T1.mk' (by kernel_rfl)
instance u25 : TU Tryz.prog 25 (.slice 67) := ⟨by kernel_rfl⟩
instance i25 : TI Tryz.prog 25 (.slice none 0 0) 1 24 := TI.mk' (by kernel_rfl)
instance o25 : T1 Tryz.prog 25 := T1.mk' (by kernel_rfl)
instance u26 : TU Tryz.prog 26 (.slice 3) := ⟨by kernel_rfl⟩
instance i26 : TI Tryz.prog 26 (.slice none 0 0) 1 24 := TI.mk' (by kernel_rfl)
instance o26 : T1 Tryz.prog 26 := T1.mk' (by kernel_rfl)
instance i28 : TI Tryz.prog 28 (.agg #[.slice none 0 0,.slice none 0 0,.slice none 0 0,.slice none 0 0,.slice none 0 0,.slice none 0 0,.slice none 0 0,.slice none 0 0]) 8 192 := TI.mk' (by kernel_rfl)
instance a28 : TA Tryz.prog 28 8 := TA.mk' (by kernel_rfl)
instance f28_0 : TF Tryz.prog 28 0 0 22 1 := TF.mk' (by kernel_rfl) (by kernel_rfl)
instance f28_1 : TF Tryz.prog 28 1 1 23 1 := TF.mk' (by kernel_rfl) (by kernel_rfl)
instance f28_2 : TF Tryz.prog 28 2 2 24 1 := TF.mk' (by kernel_rfl) (by kernel_rfl)
instance f28_3 : TF Tryz.prog 28 3 3 25 1 := TF.mk' (by kernel_rfl) (by kernel_rfl)
instance f28_4 : TF Tryz.prog 28 4 4 26 1 := TF.mk' (by kernel_rfl) (by kernel_rfl)
instance f28_5 : TF Tryz.prog 28 5 5 26 1 := TF.mk' (by kernel_rfl) (by kernel_rfl)
instance f28_6 : TF Tryz.prog 28 6 6 26 1 := TF.mk' (by kernel_rfl) (by kernel_rfl)
instance f28_7 : TF Tryz.prog 28 7 7 26 1 := TF.mk' (by kernel_rfl) (by kernel_rfl)
instance b28 : TB Tryz.prog 28 [(0,1),(1,1),(2,1),(3,1),(4,1),(5,1),(6,1),(7,1)] := ⟨by kernel_rfl⟩
instance u30 : TU Tryz.prog 30 (.int .i64) := ⟨by kernel_rfl⟩
instance i30 : TI Tryz.prog 30 (.int .i64 0) 1 8 := TI.mk' (by kernel_rfl)
instance o30 : T1 Tryz.prog 30 := T1.mk' (by kernel_rfl)
instance i33 : TI Tryz.prog 33 (.nilFunc) 1 8 := TI.mk' (by kernel_rfl)
instance o33 : T1 Tryz.prog 33 := T1.mk' (by kernel_rfl)
instance u35 : TU Tryz.prog 35 (.int .u16) := ⟨by kernel_rfl⟩
instance o35 : T1 Tryz.prog 35 := T1.mk' (by kernel_rfl)
instance a37 : TA Tryz.prog 37 2 := TA.mk' (by kernel_rfl)
instance f37_0 : TF Tryz.prog 37 0 0 35 1 := TF.mk' (by kernel_rfl) (by kernel_rfl)
instance f37_1 : TF Tryz.prog 37 1 1 5 1 := TF.mk' (by kernel_rfl) (by kernel_rfl)
instance u41 : TU Tryz.prog 41 (.array 3 9) := ⟨by kernel_rfl⟩
instance i41 : TI Tryz.prog 41 (.agg #[.string ⟨#[]⟩,.string ⟨#[]⟩,.string ⟨#[]⟩]) 3 48 := TI.mk' (by kernel_rfl)
instance a41 : TA Tryz.prog 41 3 := TA.mk' (by kernel_rfl)
instance i43 : TI Tryz.prog 43 (.nilIface) 1 16 := TI.mk' (by kernel_rfl)
instance o43 : T1 Tryz.prog 43 := T1.mk' (by kernel_rfl)
instance u47 : TU Tryz.prog 47 (.slice 62) := ⟨by kernel_rfl⟩
instance i47 : TI Tryz.prog 47 (.slice none 0 0) 1 24 := TI.mk' (by kernel_rfl)
instance o47 : T1 Tryz.prog 47 := T1.mk' (by kernel_rfl)
instance u48 : TU Tryz.prog 48 (.slice 52) := ⟨by kernel_rfl⟩
instance i48 : TI Tryz.prog 48 (.slice none 0 0) 1 24 := TI.mk' (by kernel_rfl)
instance o48 : T1 Tryz.prog 48 := T1.mk' (by kernel_rfl)
instance i50 : TI Tryz.prog 50 (.agg #[.slice none 0 0,.slice none 0 0,.slice none 0 0]) 3 72 := TI.mk' (by kernel_rfl)
instance a50 : TA Tryz.prog 50 3 := TA.mk' (by kernel_rfl)
instance f50_0 : TF Tryz.prog 50 0 0 47 1 := TF.mk' (by kernel_rfl) (by kernel_rfl)
instance f50_1 : TF Tryz.prog 50 1 1 48 1 := TF.mk' (by kernel_rfl) (by kernel_rfl)
instance f50_2 : TF Tryz.prog 50 2 2 26 1 := TF.mk' (by kernel_rfl) (by kernel_rfl)
instance b50 : TB Tryz.prog 50 [(0,1),(1,1),(2,1)] := ⟨by kernel_rfl⟩
instance i52 : TI Tryz.prog 52 (.agg #[.int .i64 0,.int .i64 0,.int .i64 0,.int .i64 0,.int .i64 0,.slice none 0 0]) 6 64 := TI.mk' (by kernel_rfl)
instance a52 : TA Tryz.prog 52 6 := TA.mk' (by kernel_rfl)
instance f52_0 : TF Tryz.prog 52 0 0 3 1 := TF.mk' (by kernel_rfl) (by kernel_rfl)
instance f52_1 : TF Tryz.prog 52 1 1 2 1 := TF.mk' (by kernel_rfl) (by kernel_rfl)
instance f52_2 : TF Tryz.prog 52 2 2 3 1 := TF.mk' (by kernel_rfl) (by kernel_rfl)
instance f52_3 : TF Tryz.prog 52 3 3 3 1 := TF.mk' (by kernel_rfl) (by kernel_rfl)
instance f52_4 : TF Tryz.prog 52 4 4 3 1 := TF.mk' (by kernel_rfl) (by kernel_rfl)
instance f52_5 : TF Tryz.prog 52 5 5 26 1 := TF.mk' (by kernel_rfl) (by kernel_rfl)
instance b52 : TB Tryz.prog 52 [(0,1),(1,1),(2,1),(3,1),(4,1),(5,1)] := ⟨by kernel_rfl⟩
instance i55 : TI Tryz.prog 55 (.agg #[.int .i64 0,.int .i64 0]) 2 16 := TI.mk' (by kernel_rfl)
instance a55 : TA Tryz.prog 55 2 := TA.mk' (by kernel_rfl)
instance f55_0 : TF Tryz.prog 55 0 0 3 1 := TF.mk' (by kernel_rfl) (by kernel_rfl)
instance f55_1 : TF Tryz.prog 55 1 1 3 1 := TF.mk' (by kernel_rfl) (by kernel_rfl)
instance b55 : TB Tryz.prog 55 [(0,1),(1,1)] := ⟨by kernel_rfl⟩
instance u56 : TU Tryz.prog 56 (.slice 55) := ⟨by kernel_rfl⟩
instance i56 : TI Tryz.prog 56 (.slice none 0 0) 1 24 := TI.mk' (by kernel_rfl)
instance o56 : T1 Tryz.prog 56 := T1.mk' (by kernel_rfl)
instance i58 : TI Tryz.prog 58 (.agg #[.int .i64 0,.int .i64 0,.bool false,.int .i64 0,.int .i64 0,.slice none 0 0]) 6 64 := TI.mk' (by kernel_rfl)
instance a58 : TA Tryz.prog 58 6 := TA.mk' (by kernel_rfl)
instance f58_0 : TF Tryz.prog 58 0 0 3 1 := TF.mk' (by kernel_rfl) (by kernel_rfl)
instance f58_1 : TF Tryz.prog 58 1 1 3 1 := TF.mk' (by kernel_rfl) (by kernel_rfl)
instance f58_2 : TF Tryz.prog 58 2 2 4 1 := TF.mk' (by kernel_rfl) (by kernel_rfl)
instance f58_3 : TF Tryz.prog 58 3 3 55 2 := TF.mk' (by kernel_rfl) (by kernel_rfl)
instance f58_4 : TF Tryz.prog 58 4 5 56 1 := TF.mk' (by kernel_rfl) (by kernel_rfl)
instance b58 : TB Tryz.prog 58 [(0,1),(1,1),(2,1),(3,2),(5,1)] := ⟨by kernel_rfl⟩
instance i60 : TI Tryz.prog 60 (.agg #[.int .i64 0,.int .i64 0]) 2 16 := TI.mk' (by kernel_rfl)
instance a60 : TA Tryz.prog 60 2 := TA.mk' (by kernel_rfl)
instance f60_0 : TF Tryz.prog 60 0 0 3 1 := TF.mk' (by kernel_rfl) (by kernel_rfl)
instance f60_1 : TF Tryz.prog 60 1 1 3 1 := TF.mk' (by kernel_rfl) (by kernel_rfl)
instance b60 : TB Tryz.prog 60 [(0,1),(1,1)] := ⟨by kernel_rfl⟩
instance i62 : TI Tryz.prog 62 (.agg #[.bool false,.int .i64 0,.int .i64 0]) 3 24 := TI.mk' (by kernel_rfl)
instance a62 : TA Tryz.prog 62 3 := TA.mk' (by kernel_rfl)
instance f62_0 : TF Tryz.prog 62 0 0 4 1 := TF.mk' (by kernel_rfl) (by kernel_rfl)
instance f62_1 : TF Tryz.prog 62 1 1 60 2 := TF.mk' (by kernel_rfl) (by kernel_rfl)
instance b62 : TB Tryz.prog 62 [(0,1),(1,2)] := ⟨by kernel_rfl⟩
instance u64 : TU Tryz.prog 64 (.struct (structFields Tryz.prog 64)) := ⟨by kernel_rfl⟩
instance i64 : TI Tryz.prog 64 (.agg #[.bool false,.int .i64 0,.int .i64 0]) 3 24 := TI.mk' (by kernel_rfl)
instance a64 : TA Tryz.prog 64 3 := TA.mk' (by kernel_rfl)
instance f64_0 : TF Tryz.prog 64 0 0 4 1 := TF.mk' (by kernel_rfl) (by kernel_rfl)
instance f64_1 : TF Tryz.prog 64 1 1 2 1 := TF.mk' (by kernel_rfl) (by kernel_rfl)
instance f64_2 : TF Tryz.prog 64 2 2 3 1 := TF.mk' (by kernel_rfl) (by kernel_rfl)
instance b64 : TB Tryz.prog 64 [(0,1),(1,1),(2,1)] := ⟨by kernel_rfl⟩
instance u65 : TU Tryz.prog 65 (.slice 64) := ⟨by kernel_rfl⟩
instance i65 : TI Tryz.prog 65 (.slice none 0 0) 1 24 := TI.mk' (by kernel_rfl)
instance o65 : T1 Tryz.prog 65 := T1.mk' (by kernel_rfl)
instance i67 : TI Tryz.prog 67 (.agg #[.int .i64 0,.slice none 0 0]) 2 32 := TI.mk' (by kernel_rfl)
instance a67 : TA Tryz.prog 67 2 := TA.mk' (by kernel_rfl)
instance f67_0 : TF Tryz.prog 67 0 0 3 1 := TF.mk' (by kernel_rfl) (by kernel_rfl)
instance f67_1 : TF Tryz.prog 67 1 1 65 1 := TF.mk' (by kernel_rfl) (by kernel_rfl)
instance b67 : TB Tryz.prog 67 [(0,1),(1,1)] := ⟨by kernel_rfl⟩
instance u70 : TU Tryz.prog 70 (.pointer 111) := ⟨by kernel_rfl⟩
instance i70 : TI Tryz.prog 70 (.pointer none) 1 8 := TI.mk' (by kernel_rfl)
instance o70 : T1 Tryz.prog 70 := T1.mk' (by kernel_rfl)
instance u71 : TU Tryz.prog 71 (.array 3 70) := ⟨by kernel_rfl⟩
instance i71 : TI Tryz.prog 71 (.agg #[.pointer none,.pointer none,.pointer none]) 3 24 := TI.mk' (by kernel_rfl)
instance a71 : TA Tryz.prog 71 3 := TA.mk' (by kernel_rfl)
instance u87 : TU Tryz.prog 87 (.struct (structFields Tryz.prog 87)) := ⟨by kernel_rfl⟩
instance i87 : TI Tryz.prog 87 (.agg #[.int .i64 0,.int .i64 0]) 2 16 := TI.mk' (by kernel_rfl)
instance a87 : TA Tryz.prog 87 2 := TA.mk' (by kernel_rfl)
instance f87_0 : TF Tryz.prog 87 0 0 30 1 := TF.mk' (by kernel_rfl) (by kernel_rfl)
instance b87 : TB Tryz.prog 87 [(0,1),(1,1)] := ⟨by kernel_rfl⟩
instance u91 : TU Tryz.prog 91 (.slice 5) := ⟨by kernel_rfl⟩
instance i91 : TI Tryz.prog 91 (.slice none 0 0) 1 24 := TI.mk' (by kernel_rfl)
instance o91 : T1 Tryz.prog 91 := T1.mk' (by kernel_rfl)
instance u93 : TU Tryz.prog 93 (.pointer 169) := ⟨by kernel_rfl⟩
instance i93 : TI Tryz.prog 93 (.pointer none) 1 8 := TI.mk' (by kernel_rfl)
instance o93 : T1 Tryz.prog 93 := T1.mk' (by kernel_rfl)
instance u101 : TU Tryz.prog 101 (.int .u64) := ⟨by kernel_rfl⟩
instance i101 : TI Tryz.prog 101 (.int .u64 0) 1 8 := TI.mk' (by kernel_rfl)
instance o101 : T1 Tryz.prog 101 := T1.mk' (by kernel_rfl)
instance i107 : TI Tryz.prog 107 (.nilFunc) 1 8 := TI.mk' (by kernel_rfl)
instance o107 : T1 Tryz.prog 107 := T1.mk' (by kernel_rfl)
instance i111 : TI Tryz.prog 111 (.agg #[.slice none 0 0,.int .i64 0]) 2 32 := TI.mk' (by kernel_rfl)
instance f111_0 : TF Tryz.prog 111 0 0 91 1 := TF.mk' (by kernel_rfl) (by kernel_rfl)
instance f111_1 : TF Tryz.prog 111 1 1 3 1 := TF.mk' (by kernel_rfl) (by kernel_rfl)
instance b111 : TB Tryz.prog 111 [(0,1),(1,1)] := ⟨by kernel_rfl⟩
instance i115 : TI Tryz.prog 115 (.agg #[.pointer none]) 1 8 := TI.mk' (by kernel_rfl)
instance a115 : TA Tryz.prog 115 1 := TA.mk' (by kernel_rfl)
instance f115_0 : TF Tryz.prog 115 0 0 93 1 := TF.mk' (by kernel_rfl) (by kernel_rfl)
instance b115 : TB Tryz.prog 115 [(0,1)] := ⟨by kernel_rfl⟩
instance o126 : T1 Tryz.prog 126 := T1.mk' (by kernel_rfl)
instance i137 : TI Tryz.prog 137 (.pointer none) 1 8 := TI.mk' (by kernel_rfl)
instance o137 : T1 Tryz.prog 137 := T1.mk' (by kernel_rfl)
instance u138 : TU Tryz.prog 138 (.array 3 137) := ⟨by kernel_rfl⟩
instance i138 : TI Tryz.prog 138 (.agg #[.pointer none,.pointer none,.pointer none]) 3 24 := TI.mk' (by kernel_rfl)
instance a138 : TA Tryz.prog 138 3 := TA.mk' (by kernel_rfl)
instance i143 : TI Tryz.prog 143 (.agg #[.pointer none,.int .i64 0,.int .i64 0]) 3 24 := TI.mk' (by kernel_rfl)
instance f143_0 : TF Tryz.prog 143 0 0 137 1 := TF.mk' (by kernel_rfl) (by kernel_rfl)
instance f143_1 : TF Tryz.prog 143 1 1 87 2 := TF.mk' (by kernel_rfl) (by kernel_rfl)
instance b143 : TB Tryz.prog 143 [(0,1),(1,2)] := ⟨by kernel_rfl⟩
instance u150 : TU Tryz.prog 150 (.pointer 87) := ⟨by kernel_rfl⟩
instance i150 : TI Tryz.prog 150 (.pointer none) 1 8 := TI.mk' (by kernel_rfl)
instance o150 : T1 Tryz.prog 150 := T1.mk' (by kernel_rfl)
instance u152 : TU Tryz.prog 152 (.pointer 150) := ⟨by kernel_rfl⟩
instance i159 : TI Tryz.prog 159 (.agg #[.pointer none]) 1 8 := TI.mk' (by kernel_rfl)
instance a159 : TA Tryz.prog 159 1 := TA.mk' (by kernel_rfl)
instance f159_0 : TF Tryz.prog 159 0 0 70 1 := TF.mk' (by kernel_rfl) (by kernel_rfl)
instance b159 : TB Tryz.prog 159 [(0,1)] := ⟨by kernel_rfl⟩
instance i169 : TI Tryz.prog 169 (.agg #[.slice none 0 0]) 1 24 := TI.mk' (by kernel_rfl)
instance f169_0 : TF Tryz.prog 169 0 0 91 1 := TF.mk' (by kernel_rfl) (by kernel_rfl)
instance b169 : TB Tryz.prog 169 [(0,1)] := ⟨by kernel_rfl⟩
instance u184 : TU Tryz.prog 184 (.struct (structFields Tryz.prog 184)) := ⟨by kernel_rfl⟩
instance i184 : TI Tryz.prog 184 (.agg #[.nilIface]) 1 16 := TI.mk' (by kernel_rfl)
instance f184_0 : TF Tryz.prog 184 0 0 43 1 := TF.mk' (by kernel_rfl) (by kernel_rfl)
instance b184 : TB Tryz.prog 184 [(0,1)] := ⟨by kernel_rfl⟩
instance i210 : TI Tryz.prog 210 (.agg #[.string ⟨#[]⟩,.int .i64 0,.int .i64 0]) 3 32 := TI.mk' (by kernel_rfl)
instance f210_0 : TF Tryz.prog 210 0 0 9 1 := TF.mk' (by kernel_rfl) (by kernel_rfl)
instance f210_1 : TF Tryz.prog 210 1 1 3 1 := TF.mk' (by kernel_rfl) (by kernel_rfl)
instance f210_2 : TF Tryz.prog 210 2 2 3 1 := TF.mk' (by kernel_rfl) (by kernel_rfl)
instance b210 : TB Tryz.prog 210 [(0,1),(1,1),(2,1)] := ⟨by kernel_rfl⟩
instance i224 : TI Tryz.prog 224 (.agg #[.pointer none,.pointer none,.int .u64 0]) 3 24 := TI.mk' (by kernel_rfl)
instance a224 : TA Tryz.prog 224 3 := TA.mk' (by kernel_rfl)
instance u248 : TU Tryz.prog 248 (.slice 107) := ⟨by kernel_rfl⟩
instance i252 : TI Tryz.prog 252 (.agg #[.bool false,.int .i64 0,.int .i64 0,.int .i64 0,.int .i64 0,.int .i64 0,.int .i64 0,.bool false]) 8 64 := TI.mk' (by kernel_rfl)
instance a252 : TA Tryz.prog 252 8 := TA.mk' (by kernel_rfl)
instance f252_0 : TF Tryz.prog 252 0 0 4 1 := TF.mk' (by kernel_rfl) (by kernel_rfl)
instance f252_1 : TF Tryz.prog 252 1 1 3 1 := TF.mk' (by kernel_rfl) (by kernel_rfl)
instance f252_2 : TF Tryz.prog 252 2 2 3 1 := TF.mk' (by kernel_rfl) (by kernel_rfl)
instance f252_3 : TF Tryz.prog 252 3 3 3 1 := TF.mk' (by kernel_rfl) (by kernel_rfl)
instance f252_4 : TF Tryz.prog 252 4 4 3 1 := TF.mk' (by kernel_rfl) (by kernel_rfl)
instance f252_5 : TF Tryz.prog 252 5 5 3 1 := TF.mk' (by kernel_rfl) (by kernel_rfl)
instance f252_6 : TF Tryz.prog 252 6 6 3 1 := TF.mk' (by kernel_rfl) (by kernel_rfl)
instance f252_7 : TF Tryz.prog 252 7 7 4 1 := TF.mk' (by kernel_rfl) (by kernel_rfl)
instance b252 : TB Tryz.prog 252 [(0,1),(1,1),(2,1),(3,1),(4,1),(5,1),(6,1),(7,1)] := ⟨by kernel_rfl⟩
instance o259 : T1 Tryz.prog 259 := T1.mk' (by kernel_rfl)
instance u281 : TU Tryz.prog 281 (.array 10 5) := ⟨by kernel_rfl⟩
instance i283 : TI Tryz.prog 283 (.agg #[.int .u8 0,.int .u8 0,.int .u8 0,.int .u8 0,.int .u8 0,.int .u8 0,.int .u8 0,.int .u8 0,.int .u8 0,.int .u8 0,.int .i64 0]) 11 24 := TI.mk' (by kernel_rfl)
instance f283_0 : TF Tryz.prog 283 0 0 281 10 := TF.mk' (by kernel_rfl) (by kernel_rfl)
instance f283_1 : TF Tryz.prog 283 1 10 3 1 := TF.mk' (by kernel_rfl) (by kernel_rfl)
instance o290 : T1 Tryz.prog 290 := T1.mk' (by kernel_rfl)
instance u292 : TU Tryz.prog 292 (.slice 33) := ⟨by kernel_rfl⟩
instance c2 : CF Tryz.prog 2 := CF.mk' Tryz.func2 (by kernel_rfl) (by kernel_rfl)
instance c3 : CF Tryz.prog 3 := CF.mk' Tryz.func3 (by kernel_rfl) (by kernel_rfl)
instance c4 : CF Tryz.prog 4 := CF.mk' Tryz.func4 (by kernel_rfl) (by kernel_rfl)
instance c5 : CF Tryz.prog 5 := CF.mk' Tryz.func5 (by kernel_rfl) (by kernel_rfl)
instance c6 : CF Tryz.prog 6 := CF.mk' Tryz.func6 (by kernel_rfl) (by kernel_rfl)
instance c7 : CF Tryz.prog 7 := CF.mk' Tryz.func7 (by kernel_rfl) (by kernel_rfl)
instance c8 : CF Tryz.prog 8 := CF.mk' Tryz.func8 (by kernel_rfl) (by kernel_rfl)
instance c9 : CF Tryz.prog 9 := CF.mk' Tryz.func9 (by kernel_rfl) (by kernel_rfl)
instance c10 : CF Tryz.prog 10 := CF.mk' Tryz.func10 (by kernel_rfl) (by kernel_rfl)
instance c11 : CF Tryz.prog 11 := CF.mk' Tryz.func11 (by kernel_rfl) (by kernel_rfl)
instance c12 : CF Tryz.prog 12 := CF.mk' Tryz.func12 (by kernel_rfl) (by kernel_rfl)
instance c13 : CF Tryz.prog 13 := CF.mk' Tryz.func13 (by kernel_rfl) (by kernel_rfl)
instance c14 : CF Tryz.prog 14 := CF.mk' Tryz.func14 (by kernel_rfl) (by kernel_rfl)
instance c16 : CF Tryz.prog 16 := CF.mk' Tryz.func16 (by kernel_rfl) (by kernel_rfl)
instance c17 : CF Tryz.prog 17 := CF.mk' Tryz.func17 (by kernel_rfl) (by kernel_rfl)
instance c18 : CF Tryz.prog 18 := CF.mk' Tryz.func18 (by kernel_rfl) (by kernel_rfl)
instance c21 : CF Tryz.prog 21 := CF.mk' Tryz.func21 (by kernel_rfl) (by kernel_rfl)
instance c22 : CF Tryz.prog 22 := CF.mk' Tryz.func22 (by kernel_rfl) (by kernel_rfl)
instance c23 : CF Tryz.prog 23 := CF.mk' Tryz.func23 (by kernel_rfl) (by kernel_rfl)
instance c24 : CF Tryz.prog 24 := CF.mk' Tryz.func24 (by kernel_rfl) (by kernel_rfl)
instance c25 : CF Tryz.prog 25 := CF.mk' Tryz.func25 (by kernel_rfl) (by kernel_rfl)
instance c26 : CF Tryz.prog 26 := CF.mk' Tryz.func26 (by kernel_rfl) (by kernel_rfl)
instance c27 : CF Tryz.prog 27 := CF.mk' Tryz.func27 (by kernel_rfl) (by kernel_rfl)
instance c28 : CF Tryz.prog 28 := CF.mk' Tryz.func28 (by kernel_rfl) (by kernel_rfl)
instance c29 : CF Tryz.prog 29 := CF.mk' Tryz.func29 (by kernel_rfl) (by kernel_rfl)
instance c30 : CF Tryz.prog 30 := CF.mk' Tryz.func30 (by kernel_rfl) (by kernel_rfl)
instance c31 : CF Tryz.prog 31 := CF.mk' Tryz.func31 (by kernel_rfl) (by kernel_rfl)
instance c32 : CF Tryz.prog 32 := CF.mk' Tryz.func32 (by kernel_rfl) (by kernel_rfl)
instance c33 : CF Tryz.prog 33 := CF.mk' Tryz.func33 (by kernel_rfl) (by kernel_rfl)
instance c34 : CF Tryz.prog 34 := CF.mk' Tryz.func34 (by kernel_rfl) (by kernel_rfl)
instance c35 : CF Tryz.prog 35 := CF.mk' Tryz.func35 (by kernel_rfl) (by kernel_rfl)
instance c37 : CF Tryz.prog 37 := CF.mk' Tryz.func37 (by kernel_rfl) (by kernel_rfl)
instance c38 : CF Tryz.prog 38 := CF.mk' Tryz.func38 (by kernel_rfl) (by kernel_rfl)
instance c39 : CF Tryz.prog 39 := CF.mk' Tryz.func39 (by kernel_rfl) (by kernel_rfl)
instance c40 : CF Tryz.prog 40 := CF.mk' Tryz.func40 (by kernel_rfl) (by kernel_rfl)
instance c41 : CF Tryz.prog 41 := CF.mk' Tryz.func41 (by kernel_rfl) (by kernel_rfl)
instance c42 : CF Tryz.prog 42 := CF.mk' Tryz.func42 (by kernel_rfl) (by kernel_rfl)
instance c43 : CF Tryz.prog 43 := CF.mk' Tryz.func43 (by kernel_rfl) (by kernel_rfl)
instance c44 : CF Tryz.prog 44 := CF.mk' Tryz.func44 (by kernel_rfl) (by kernel_rfl)
instance c45 : CF Tryz.prog 45 := CF.mk' Tryz.func45 (by kernel_rfl) (by kernel_rfl)
instance c46 : CF Tryz.prog 46 := CF.mk' Tryz.func46 (by kernel_rfl) (by kernel_rfl)
instance c47 : CF Tryz.prog 47 := CF.mk' Tryz.func47 (by kernel_rfl) (by kernel_rfl)
instance c48 : CF Tryz.prog 48 := CF.mk' Tryz.func48 (by kernel_rfl) (by kernel_rfl)
instance c49 : CF Tryz.prog 49 := CF.mk' Tryz.func49 (by kernel_rfl) (by kernel_rfl)
instance c50 : CF Tryz.prog 50 := CF.mk' Tryz.func50 (by kernel_rfl) (by kernel_rfl)
instance c51 : CF Tryz.prog 51 := CF.mk' Tryz.func51 (by kernel_rfl) (by kernel_rfl)
instance c52 : CF Tryz.prog 52 := CF.mk' Tryz.func52 (by kernel_rfl) (by kernel_rfl)
instance c53 : CF Tryz.prog 53 := CF.mk' Tryz.func53 (by kernel_rfl) (by kernel_rfl)
instance c54 : CF Tryz.prog 54 := CF.mk' Tryz.func54 (by kernel_rfl) (by kernel_rfl)
instance c55 : CF Tryz.prog 55 := CF.mk' Tryz.func55 (by kernel_rfl) (by kernel_rfl)
instance c56 : CF Tryz.prog 56 := CF.mk' Tryz.func56 (by kernel_rfl) (by kernel_rfl)
instance c57 : CF Tryz.prog 57 := CF.mk' Tryz.func57 (by kernel_rfl) (by kernel_rfl)
instance c58 : CF Tryz.prog 58 := CF.mk' Tryz.func58 (by kernel_rfl) (by kernel_rfl)
instance c59 : CF Tryz.prog 59 := CF.mk' Tryz.func59 (by kernel_rfl) (by kernel_rfl)
instance c60 : CF Tryz.prog 60 := CF.mk' Tryz.func60 (by kernel_rfl) (by kernel_rfl)
instance c61 : CF Tryz.prog 61 := CF.mk' Tryz.func61 (by kernel_rfl) (by kernel_rfl)
instance c63 : CF Tryz.prog 63 := CF.mk' Tryz.func63 (by kernel_rfl) (by kernel_rfl)
instance c64 : CF Tryz.prog 64 := CF.mk' Tryz.func64 (by kernel_rfl) (by kernel_rfl)
instance c65 : CF Tryz.prog 65 := CF.mk' Tryz.func65 (by kernel_rfl) (by kernel_rfl)
instance c66 : CF Tryz.prog 66 := CF.mk' Tryz.func66 (by kernel_rfl) (by kernel_rfl)
instance c67 : CF Tryz.prog 67 := CF.mk' Tryz.func67 (by kernel_rfl) (by kernel_rfl)
instance c68 : CF Tryz.prog 68 := CF.mk' Tryz.func68 (by kernel_rfl) (by kernel_rfl)
instance c69 : CF Tryz.prog 69 := CF.mk' Tryz.func69 (by kernel_rfl) (by kernel_rfl)
instance c70 : CF Tryz.prog 70 := CF.mk' Tryz.func70 (by kernel_rfl) (by kernel_rfl)
instance c71 : CF Tryz.prog 71 := CF.mk' Tryz.func71 (by kernel_rfl) (by kernel_rfl)
instance c72 : CF Tryz.prog 72 := CF.mk' Tryz.func72 (by kernel_rfl) (by kernel_rfl)
instance c73 : CF Tryz.prog 73 := CF.mk' Tryz.func73 (by kernel_rfl) (by kernel_rfl)
instance c74 : CF Tryz.prog 74 := CF.mk' Tryz.func74 (by kernel_rfl) (by kernel_rfl)
instance c75 : CF Tryz.prog 75 := CF.mk' Tryz.func75 (by kernel_rfl) (by kernel_rfl)
instance c76 : CF Tryz.prog 76 := CF.mk' Tryz.func76 (by kernel_rfl) (by kernel_rfl)
instance c77 : CF Tryz.prog 77 := CF.mk' Tryz.func77 (by kernel_rfl) (by kernel_rfl)
instance c78 : CF Tryz.prog 78 := CF.mk' Tryz.func78 (by kernel_rfl) (by kernel_rfl)
instance c79 : CF Tryz.prog 79 := CF.mk' Tryz.func79 (by kernel_rfl) (by kernel_rfl)
instance c80 : CF Tryz.prog 80 := CF.mk' Tryz.func80 (by kernel_rfl) (by kernel_rfl)
instance c81 : CF Tryz.prog 81 := CF.mk' Tryz.func81 (by kernel_rfl) (by kernel_rfl)
instance c82 : CF Tryz.prog 82 := CF.mk' Tryz.func82 (by kernel_rfl) (by kernel_rfl)
instance c83 : CF Tryz.prog 83 := CF.mk' Tryz.func83 (by kernel_rfl) (by kernel_rfl)
instance c84 : CF Tryz.prog 84 := CF.mk' Tryz.func84 (by kernel_rfl) (by kernel_rfl)
instance c85 : CF Tryz.prog 85 := CF.mk' Tryz.func85 (by kernel_rfl) (by kernel_rfl)
instance c86 : CF Tryz.prog 86 := CF.mk' Tryz.func86 (by kernel_rfl) (by kernel_rfl)
instance c87 : CF Tryz.prog 87 := CF.mk' Tryz.func87 (by kernel_rfl) (by kernel_rfl)
instance c88 : CF Tryz.prog 88 := CF.mk' Tryz.func88 (by kernel_rfl) (by kernel_rfl)
instance c89 : CF Tryz.prog 89 := CF.mk' Tryz.func89 (by kernel_rfl) (by kernel_rfl)
instance c90 : CF Tryz.prog 90 := CF.mk' Tryz.func90 (by kernel_rfl) (by kernel_rfl)
instance c91 : CF Tryz.prog 91 := CF.mk' Tryz.func91 (by kernel_rfl) (by kernel_rfl)
instance c92 : CF Tryz.prog 92 := CF.mk' Tryz.func92 (by kernel_rfl) (by kernel_rfl)
instance c93 : CF Tryz.prog 93 := CF.mk' Tryz.func93 (by kernel_rfl) (by kernel_rfl)
instance c94 : CF Tryz.prog 94 := CF.mk' Tryz.func94 (by kernel_rfl) (by kernel_rfl)
instance c95 : CF Tryz.prog 95 := CF.mk' Tryz.func95 (by kernel_rfl) (by kernel_rfl)
instance c96 : CF Tryz.prog 96 := CF.mk' Tryz.func96 (by kernel_rfl) (by kernel_rfl)
instance c97 : CF Tryz.prog 97 := CF.mk' Tryz.func97 (by kernel_rfl) (by kernel_rfl)
instance c98 : CF Tryz.prog 98 := CF.mk' Tryz.func98 (by kernel_rfl) (by kernel_rfl)
instance c99 : CF Tryz.prog 99 := CF.mk' Tryz.func99 (by kernel_rfl) (by kernel_rfl)
instance c100 : CF Tryz.prog 100 := CF.mk' Tryz.func100 (by kernel_rfl) (by kernel_rfl)
instance c101 : CF Tryz.prog 101 := CF.mk' Tryz.func101 (by kernel_rfl) (by kernel_rfl)
instance c102 : CF Tryz.prog 102 := CF.mk' Tryz.func102 (by kernel_rfl) (by kernel_rfl)
instance c103 : CF Tryz.prog 103 := CF.mk' Tryz.func103 (by kernel_rfl) (by kernel_rfl)
instance c104 : CF Tryz.prog 104 := CF.mk' Tryz.func104 (by kernel_rfl) (by kernel_rfl)
instance c105 : CF Tryz.prog 105 := CF.mk' Tryz.func105 (by kernel_rfl) (by kernel_rfl)
instance c106 : CF Tryz.prog 106 := CF.mk' Tryz.func106 (by kernel_rfl) (by kernel_rfl)
instance c107 : CF Tryz.prog 107 := CF.mk' Tryz.func107 (by kernel_rfl) (by kernel_rfl)
instance c108 : CF Tryz.prog 108 := CF.mk' Tryz.func108 (by kernel_rfl) (by kernel_rfl)
instance c109 : CF Tryz.prog 109 := CF.mk' Tryz.func109 (by kernel_rfl) (by kernel_rfl)
instance c110 : CF Tryz.prog 110 := CF.mk' Tryz.func110 (by kernel_rfl) (by kernel_rfl)
instance c111 : CF Tryz.prog 111 := CF.mk' Tryz.func111 (by kernel_rfl) (by kernel_rfl)
instance c112 : CF Tryz.prog 112 := CF.mk' Tryz.func112 (by kernel_rfl) (by kernel_rfl)
instance c113 : CF Tryz.prog 113 := CF.mk' Tryz.func113 (by kernel_rfl) (by kernel_rfl)
instance c114 : CF Tryz.prog 114 := CF.mk' Tryz.func114 (by kernel_rfl) (by kernel_rfl)
instance c115 : CF Tryz.prog 115 := CF.mk' Tryz.func115 (by kernel_rfl) (by kernel_rfl)
instance c116 : CF Tryz.prog 116 := CF.mk' Tryz.func116 (by kernel_rfl) (by kernel_rfl)
instance c117 : CF Tryz.prog 117 := CF.mk' Tryz.func117 (by kernel_rfl) (by kernel_rfl)
instance c118 : CF Tryz.prog 118 := CF.mk' Tryz.func118 (by kernel_rfl) (by kernel_rfl)
instance c119 : CF Tryz.prog 119 := CF.mk' Tryz.func119 (by kernel_rfl) (by kernel_rfl)
instance c120 : CF Tryz.prog 120 := CF.mk' Tryz.func120 (by kernel_rfl) (by kernel_rfl)
instance c121 : CF Tryz.prog 121 := CF.mk' Tryz.func121 (by kernel_rfl) (by kernel_rfl)
instance c122 : CF Tryz.prog 122 := CF.mk' Tryz.func122 (by kernel_rfl) (by kernel_rfl)
instance c123 : CF Tryz.prog 123 := CF.mk' Tryz.func123 (by kernel_rfl) (by kernel_rfl)
instance c124 : CF Tryz.prog 124 := CF.mk' Tryz.func124 (by kernel_rfl) (by kernel_rfl)
instance c125 : CF Tryz.prog 125 := CF.mk' Tryz.func125 (by kernel_rfl) (by kernel_rfl)
instance c126 : CF Tryz.prog 126 := CF.mk' Tryz.func126 (by kernel_rfl) (by kernel_rfl)
instance c127 : CF Tryz.prog 127 := CF.mk' Tryz.func127 (by kernel_rfl) (by kernel_rfl)
instance c128 : CF Tryz.prog 128 := CF.mk' Tryz.func128 (by kernel_rfl) (by kernel_rfl)
instance c129 : CF Tryz.prog 129 := CF.mk' Tryz.func129 (by kernel_rfl) (by kernel_rfl)
instance c130 : CF Tryz.prog 130 := CF.mk' Tryz.func130 (by kernel_rfl) (by kernel_rfl)
instance c134 : CF Tryz.prog 134 := CF.mk' Tryz.func134 (by kernel_rfl) (by kernel_rfl)
instance c135 : CF Tryz.prog 135 := CF.mk' Tryz.func135 (by kernel_rfl) (by kernel_rfl)
instance c136 : CF Tryz.prog 136 := CF.mk' Tryz.func136 (by kernel_rfl) (by kernel_rfl)
instance c137 : CF Tryz.prog 137 := CF.mk' Tryz.func137 (by kernel_rfl) (by kernel_rfl)
instance c138 : CF Tryz.prog 138 := CF.mk' Tryz.func138 (by kernel_rfl) (by kernel_rfl)
instance c139 : CF Tryz.prog 139 := CF.mk' Tryz.func139 (by kernel_rfl) (by kernel_rfl)
instance c140 : CF Tryz.prog 140 := CF.mk' Tryz.func140 (by kernel_rfl) (by kernel_rfl)
instance c141 : CF Tryz.prog 141 := CF.mk' Tryz.func141 (by kernel_rfl) (by kernel_rfl)
instance c142 : CF Tryz.prog 142 := CF.mk' Tryz.func142 (by kernel_rfl) (by kernel_rfl)
instance c143 : CF Tryz.prog 143 := CF.mk' Tryz.func143 (by kernel_rfl) (by kernel_rfl)
instance c144 : CF Tryz.prog 144 := CF.mk' Tryz.func144 (by kernel_rfl) (by kernel_rfl)
instance c145 : CF Tryz.prog 145 := CF.mk' Tryz.func145 (by kernel_rfl) (by kernel_rfl)
instance c146 : CF Tryz.prog 146 := CF.mk' Tryz.func146 (by kernel_rfl) (by kernel_rfl)
instance c147 : CF Tryz.prog 147 := CF.mk' Tryz.func147 (by kernel_rfl) (by kernel_rfl)
instance c148 : CF Tryz.prog 148 := CF.mk' Tryz.func148 (by kernel_rfl) (by kernel_rfl)
instance c149 : CF Tryz.prog 149 := CF.mk' Tryz.func149 (by kernel_rfl) (by kernel_rfl)
instance c150 : CF Tryz.prog 150 := CF.mk' Tryz.func150 (by kernel_rfl) (by kernel_rfl)
instance c151 : CF Tryz.prog 151 := CF.mk' Tryz.func151 (by kernel_rfl) (by kernel_rfl)
instance c152 : CF Tryz.prog 152 := CF.mk' Tryz.func152 (by kernel_rfl) (by kernel_rfl)
instance c153 : CF Tryz.prog 153 := CF.mk' Tryz.func153 (by kernel_rfl) (by kernel_rfl)
instance c154 : CF Tryz.prog 154 := CF.mk' Tryz.func154 (by kernel_rfl) (by kernel_rfl)
instance c155 : CF Tryz.prog 155 := CF.mk' Tryz.func155 (by kernel_rfl) (by kernel_rfl)
instance c156 : CF Tryz.prog 156 := CF.mk' Tryz.func156 (by kernel_rfl) (by kernel_rfl)
instance c157 : CF Tryz.prog 157 := CF.mk' Tryz.func157 (by kernel_rfl) (by kernel_rfl)
instance c158 : CF Tryz.prog 158 := CF.mk' Tryz.func158 (by kernel_rfl) (by kernel_rfl)
instance c159 : CF Tryz.prog 159 := CF.mk' Tryz.func159 (by kernel_rfl) (by kernel_rfl)
instance c160 : CF Tryz.prog 160 := CF.mk' Tryz.func160 (by kernel_rfl) (by kernel_rfl)
instance c161 : CF Tryz.prog 161 := CF.mk' Tryz.func161 (by kernel_rfl) (by kernel_rfl)
instance c162 : CF Tryz.prog 162 := CF.mk' Tryz.func162 (by kernel_rfl) (by kernel_rfl)
instance c163 : CF Tryz.prog 163 := CF.mk' Tryz.func163 (by kernel_rfl) (by kernel_rfl)
instance c164 : CF Tryz.prog 164 := CF.mk' Tryz.func164 (by kernel_rfl) (by kernel_rfl)
instance c165 : CF Tryz.prog 165 := CF.mk' Tryz.func165 (by kernel_rfl) (by kernel_rfl)
instance c168 : CF Tryz.prog 168 := CF.mk' Tryz.func168 (by kernel_rfl) (by kernel_rfl)
instance c169 : CF Tryz.prog 169 := CF.mk' Tryz.func169 (by kernel_rfl) (by kernel_rfl)
instance c170 : CF Tryz.prog 170 := CF.mk' Tryz.func170 (by kernel_rfl) (by kernel_rfl)
instance c171 : CF Tryz.prog 171 := CF.mk' Tryz.func171 (by kernel_rfl) (by kernel_rfl)
instance c172 : CF Tryz.prog 172 := CF.mk' Tryz.func172 (by kernel_rfl) (by kernel_rfl)
instance c173 : CF Tryz.prog 173 := CF.mk' Tryz.func173 (by kernel_rfl) (by kernel_rfl)
instance c174 : CF Tryz.prog 174 := CF.mk' Tryz.func174 (by kernel_rfl) (by kernel_rfl)
instance c175 : CF Tryz.prog 175 := CF.mk' Tryz.func175 (by kernel_rfl) (by kernel_rfl)
instance c176 : CF Tryz.prog 176 := CF.mk' Tryz.func176 (by kernel_rfl) (by kernel_rfl)
instance c177 : CF Tryz.prog 177 := CF.mk' Tryz.func177 (by kernel_rfl) (by kernel_rfl)
instance c178 : CF Tryz.prog 178 := CF.mk' Tryz.func178 (by kernel_rfl) (by kernel_rfl)
instance c179 : CF Tryz.prog 179 := CF.mk' Tryz.func179 (by kernel_rfl) (by kernel_rfl)
instance c180 : CF Tryz.prog 180 := CF.mk' Tryz.func180 (by kernel_rfl) (by kernel_rfl)
instance c181 : CF Tryz.prog 181 := CF.mk' Tryz.func181 (by kernel_rfl) (by kernel_rfl)
instance c182 : CF Tryz.prog 182 := CF.mk' Tryz.func182 (by kernel_rfl) (by kernel_rfl)
instance c202 : CF Tryz.prog 202 := CF.mk' Tryz.func202 (by kernel_rfl) (by kernel_rfl)
end Go.Proofs.YtickblndgihoeaaGreatDoor

/- Rows of rows;ranges over functions inside loops. -/
namespace Go.Sp
open Go.RowKit

theorem up_vw (sz : Nat) (v : Value) (n : Nat) (cs : List Value) : Up (Vw sz v n cs) := by
  rintro h h' hl ⟨h1,h0,p,cap,h2,h3⟩
  refine ⟨h1,h0,p,cap,h2,h3.imp id ?_⟩
  rintro ⟨b,o,all,e,fz,h4,h5,h6⟩
  exact ⟨b,o,all,e,fz,h4,hl _ _ h5,h6⟩
theorem star_two {A B : HP} (ha : Up A) (hb : Up B) {k : Part} (h : Star [A,B] k) : A k ∧ B k := by
  obtain ⟨h1,h2,c,l1,l2,pa,h3,h4,c2,l3,l4,pb,_⟩ := h
  exact ⟨ha _ _ l1 pa,hb _ _ (l3.trans l2) pb⟩
theorem Ent.dup (A : HP) {L M : List HP} [hp : PersA A] [t : Tk A L M] : Ent L (A :: L) := fun F w hs => by
  have h1 := (hs.perm (t.h.cons F)).swap.dup hp.h
  have h2 : Sat w (A :: F :: L) := h1.perm (List.Perm.cons A ((List.Perm.swap F A M).trans (t.h.symm.cons F)))
  exact h2.swap

section
variable {P : Program} {N : Nat} {rd : Option Nat} {E : Env} {D : List Deferred} {L : List HP} {Q : uF} {next : Env → List Deferred → List HP → Prop}
end
end Go.Sp

/- Rows that are taken from at the front and added to at the back. -/
namespace Go.Sp
open Go.RowKit

section
variable {P : Program} {N : Nat} {rd : Option Nat} {E : Env} {D : List Deferred} {L : List HP} {Q : uF} {next : Env → List Deferred → List HP → Prop}
variable {d : Option Nat} {ty : TypeId} {pos : String} {after : Array Edge} {g : Option (Nat × Bool)}
end
end Go.Sp

/- Scopes (of labels that none goes to). -/
namespace Go.Sp
open Go.RowKit
section
variable {P : Program} {N : Nat} {E : Env} {D : List Deferred} {L : List HP} {Q : uF}
def noG (Q : uF) : uF
  | .goto _,_,_,_ => False
  | e,E,D,L => Q e E D L
theorem J_scope {c : Code} (h : J P N none c E D L (noG Q)) : J P N none (.scope c) E D L Q := by
  intro F a w hr hs
  have h1 : c.wp P (Exit.noGoto (lift N F Q)) a w := wpIn_wide.1 (wpIn_mono (h F a w hr hs) (by
    rintro e a w ⟨E,D,L,q,r,s⟩
    cases e with
    | goto l => exact q.elim
    | _ => exact ⟨E,D,L,q,r,s⟩))
  exact (wpIn_wide (n := 0)).2 (wp_scope_straight h1)
end
end Go.Sp

/- Regions that draw their order. -/
namespace Go.Sp
open Go.RowKit
def rdy (ops : Array Oper) (ls : List Bool) (i : Nat) : Bool :=
  !ls.getD i true && ((ops.toList[i]?).map (·.after.toList.all fun e => !Region.binds .any e || ls.getD e.on false)).getD false
theorem rdy_eq {ops : Array Oper} {ls : List Bool} : Region.ready .any ops ls.toArray = (List.range ops.size).filter (rdy ops ls) := by
  unfold Region.ready
  congr 1
  funext i
  unfold rdy
  simp only [Array.getElem?_toList,Array.all_toList]
  simp
def idxs : List Oper → Nat → List Nat
  | [],_ => []
  | _ :: r,k => k :: idxs r (k + 1)
theorem idxs_eq : ∀ (l : List Oper) (k : Nat),idxs l k = List.range' k l.length
  | [],_ => rfl
  | _ :: r,k => by simp [idxs,idxs_eq r (k + 1),List.range'_succ]
theorem idxs_range (ops : Array Oper) : List.range ops.size = idxs ops.toList 0 := by rw [idxs_eq,List.range_eq_range',Array.length_toList]
def orL (f : Nat → Bool) : List Nat → Bool
  | [] => false
  | i :: r => match f i with | true => true | false => orL f r
theorem orL_eq (f : Nat → Bool) : ∀ l,orL f l = l.any f
  | [] => rfl
  | i :: r => by simp only [orL,List.any_cons];cases f i <;> simp [orL_eq f r]
class Mixed (P : Program) : Prop where h : P.follows .mixedOrders = true
section
variable {P : Program} {N : Nat} {E : Env} {D : List Deferred} {L : List HP} {Q : uF}
variable (P N) in
def JA (ops : Array Oper) (fuel : Nat) (ls : List Bool) (E : Env) (D : List Deferred) (L : List HP) (Q : uF) : Prop :=
  ∀ (F : HP) (a : Act) (w : World),Rep N E D a → Sat w (F :: L) → wpAnyIn (FW none) 0 P .any ops (lift N F Q) fuel ls.toArray a w
variable (P N) in
def JA1 (ops : Array Oper) (fuel : Nat) (ls : List Bool) (i : Nat) (E : Env) (D : List Deferred) (L : List HP) (Q : uF) : Prop :=
  ∀ (F : HP) (a : Act) (w : World),Rep N E D a → Sat w (F :: L) → wpOpIn (FW none) 0 P ops (lift N F Q) i (wpAnyIn (FW none) 0 P .any ops (lift N F Q) fuel (ls.set i true).toArray) a w
variable (P N) in
def JAl (ops : Array Oper) (fuel : Nat) (ls : List Bool) (E : Env) (D : List Deferred) (L : List HP) (Q : uF) : List Nat → Prop
  | [] => True
  | i :: r => (match rdy ops ls i with | true => JA1 P N ops fuel ls i E D L Q | false => True) ∧ JAl ops fuel ls E D L Q r
theorem jal_mem {ops : Array Oper} {fuel : Nat} {ls : List Bool} : ∀ {r : List Nat},JAl P N ops fuel ls E D L Q r → ∀ i ∈ r,rdy ops ls i = true → JA1 P N ops fuel ls i E D L Q := by
  intro r
  induction r with
  | nil => intro _ i hi;cases hi
  | cons j r ih =>
    rintro ⟨h1,h2⟩ i hi hr
    simp only [List.mem_cons] at hi
    rcases hi with rfl | hi
    · rw [hr] at h1;exact h1
    · exact ih h2 i hi hr
def cnt : List Oper → Nat
  | [] => 0
  | _ :: r => cnt r + 1
theorem cnt_eq : ∀ l : List Oper,cnt l = l.length
  | [] => rfl
  | _ :: r => by simp [cnt,cnt_eq r]
def flags : List Oper → List Bool
  | [] => []
  | _ :: r => false :: flags r
theorem flags_eq : ∀ l : List Oper,flags l = List.replicate l.length false
  | [] => rfl
  | _ :: r => by simp [flags,flags_eq r,List.replicate_succ]
theorem J_regionD [Mixed P] {id : Nat} {ops : Array Oper} (h : JA P N ops (cnt ops.toList) (flags ops.toList) E D L Q) : J P N none (.region id ops true) E D L Q := fun F a w hr hs => by
  refine wpIn_region_any Mixed.h ?_
  have := h F a { w with drawn := w.drawn + 1 } hr (hs.world rfl)
  rw [flags_eq,cnt_eq,List.toArray_replicate,Array.length_toList] at this
  exact this
theorem jal_nil {ops : Array Oper} {fuel : Nat} {ls : List Bool} : JAl P N ops fuel ls E D L Q [] := trivial
theorem jal_no {ops : Array Oper} {fuel i : Nat} {ls : List Bool} {r : List Nat} (h : rdy ops ls i = false) (h2 : JAl P N ops fuel ls E D L Q r) : JAl P N ops fuel ls E D L Q (i :: r) := ⟨by rw [h];trivial,h2⟩
theorem jal_yes {ops : Array Oper} {fuel i : Nat} {ls : List Bool} {r : List Nat} (h : rdy ops ls i = true) (h1 : JA1 P N ops fuel ls i E D L Q) (h2 : JAl P N ops fuel ls E D L Q r) : JAl P N ops fuel ls E D L Q (i :: r) := ⟨by rw [h];exact h1,h2⟩
theorem JA_step {ops : Array Oper} {fuel : Nat} {ls : List Bool} (hne : orL (rdy ops ls) (idxs ops.toList 0) = true) (h : JAl P N ops fuel ls E D L Q (idxs ops.toList 0)) : JA P N ops (fuel + 1) ls E D L Q := by
  rw [orL_eq] at hne
  rw [← idxs_range] at hne h
  intro F a w hr hs
  refine ⟨fun h0 => ?_,fun i hi => ?_⟩
  · exfalso
    rw [rdy_eq,List.filter_eq_nil_iff] at h0
    rw [List.any_eq_true] at hne
    obtain ⟨i,h1,h2⟩ := hne
    exact h0 i h1 h2
  · rw [rdy_eq,List.mem_filter] at hi
    have := jal_mem h i hi.1 hi.2 F a w hr hs
    rw [List.setIfInBounds_toArray]
    exact this
theorem JA_end {ops : Array Oper} {fuel : Nat} {ls : List Bool} (hne : orL (rdy ops ls) (idxs ops.toList 0) = false) (h : Q .normal E D L) : JA P N ops fuel ls E D L Q := by
  rw [orL_eq,← idxs_range] at hne
  intro F a w hr hs
  have h0 : Region.ready .any ops ls.toArray = [] := by
    rw [rdy_eq,List.filter_eq_nil_iff]
    intro i hi hr
    rw [List.any_eq_false] at hne
    exact hne i hi hr
  cases fuel with
  | zero => exact ⟨h0,E,D,L,h,hr,hs⟩
  | succ fuel => exact ⟨fun _ => ⟨E,D,L,h,hr,hs⟩,fun i hi => by rw [h0] at hi;cases hi⟩
theorem JA_op {ops : Array Oper} {fuel i : Nat} {ls : List Bool} {o : Oper} (ho : ops.toList[i]? = some o) (hg : o.guard = none) (h : JO P N none o E D L (fun E' D' L' => JA P N ops fuel (ls.set i true) E' D' L' Q) Q) : JA1 P N ops fuel ls i E D L Q := by
  intro F a w hr hs
  rw [Array.getElem?_toList] at ho
  simp only [wpOpIn,ho,Region.wanted,hg,if_true]
  exact h F a w hr hs _ fun E' D' L' a' w' hn hr' hs' => hn F a' w' hr' hs'
theorem JA_take {ops : Array Oper} {fuel i : Nat} {ls : List Bool} {o : Oper} {j : Nat} {want : Bool} (ho : ops.toList[i]? = some o) (hg : o.guard = some (j,want)) (hv : gval ops E j = some want) (h : JO P N none o E D L (fun E' D' L' => JA P N ops fuel (ls.set i true) E' D' L' Q) Q) : JA1 P N ops fuel ls i E D L Q := by
  intro F a w hr hs
  rw [Array.getElem?_toList] at ho
  simp only [wpOpIn,ho,Region.wanted,hg,yielded_of hr hv,beq_self_eq_true,if_true]
  exact h F a w hr hs _ fun E' D' L' a' w' hn hr' hs' => hn F a' w' hr' hs'
end
end Go.Sp

/- Regions that draw their order and write nothing: any order is as good as one. -/
namespace Go.Sp
open Go.RowKit
section
variable {P : Program} {N : Nat} {E : Env} {D : List Deferred} {L : List HP} {Q : uF}
variable (P N) in
def JQ (o : Oper) (E : Env) (D : List Deferred) (L : List HP) (v : Value) : Prop := ∀ (F : HP) (a : Act),Rep N E D a → ∀ w,Sat w (F :: L) → (execOp a.eval o).run P w = .ok (.value v) w
class CalmQ (Q : uF) : Prop where h : ∀ ch E D L,¬ Q (.panic ch) E D L
instance calm_thn (K : Env → List Deferred → List HP → Prop) (Q : uF) [h : CalmQ Q] : CalmQ (thn K Q) := ⟨fun ch E D L q => h.h ch E D L q⟩
instance calm_inB (id : Nat) (Q : uF) [h : CalmQ Q] : CalmQ (inB id Q) := ⟨fun ch E D L q => h.h ch E D L q⟩
instance calm_retV (fn : Func) (v : Value) (L0 : List HP) : CalmQ (bodyQ P N fn fun e L => ∃ L',Ent L L' ∧ wF v L0 e L') := ⟨fun ch E D L q => by
  obtain ⟨_,L',_,h1,_⟩ := q
  cases h1⟩
instance calm_retE {α : Type} (fn : Func) (φ : α → Prop) (v : α → Value) (L0 : α → List HP) : CalmQ (bodyQ P N fn fun e L => ∃ L',Ent L L' ∧ RetE φ v L0 e L') := ⟨fun ch E D L q => by
  obtain ⟨_,L',_,x,_,h1,_⟩ := q
  cases h1⟩
section
variable {d : Option Nat} {ty : TypeId} {pos : String} {after : Array Edge} {g : Option (Nat × Bool)}
theorem xE {x : Operand} {v : Value} (hx : ev E x = some v) : JQ P N ⟨d,.move x,ty,pos,after,g⟩ E D L v := fun F a hr w hs => by simp [execOp,hr.eval hx]
theorem tC {t : TypeId} [T1 P t] {x : Operand} {p : Addr} {v : Value} (hx : ev E x = some (.pointer (some p))) (hl : Lds L p v) : JQ P N ⟨d,.load t x,ty,pos,after,g⟩ E D L v := fun F a hr w hs => by
  simp [execOp,Instr.loadAt,Instr.sureAddr,hr.eval hx,loadVar,run_isAgg1 (P := P) (t := t),hl F w hs]
theorem JQ_field {s f off ft n : Nat} [TF P s f off ft n] {x : Operand} {b o : Nat} (hx : ev E x = some (.pointer (some ⟨b,o,none⟩))) : JQ P N ⟨d,.fieldAddr s x f,ty,pos,after,g⟩ E D L (.pointer (some ⟨b,o + off,none⟩)) := fun F a hr w hs => by
  obtain ⟨fs,fl,h1,h2,rfl,rfl,⟨i,h3,h4⟩,h5⟩ := TF.h (P := P) (s := s) (f := f) (off := off) (ty := ft) (n := n)
  simp [execOp,Instr.fieldAt,hr.eval hx,yM h1,h2,Instr.sureAddr,fieldPlace,vK h3,h4,h5,addr_add]
theorem JQ_index {t e : TypeId} [TU P t (.slice e)] {z : Value} {n k : Nat} [TI P e z n k] {x y : Operand} {b o len cap j : Nat} {ik : IntKind} (hx : ev E x = some (.slice (some ⟨b,o,none⟩) len cap)) (hy : ev E y = some (.int ik (j : Int))) (hj : j < len) :
    JQ P N ⟨d,.indexAddr t x y,ty,pos,after,g⟩ E D L (.pointer (some ⟨b,o + j * n,none⟩)) := fun F a hr w hs => by
  obtain ⟨i,h1,h2,h3,h4⟩ := TI.h (P := P) (t := e) (z := z) (n := n) (b := k)
  have h5 : ¬ len ≤ j := by omega
  simp [execOp,Instr.indexAt,hr.eval hx,hr.eval hy,asIntOf,yM (TU.h (P := P) (t := t)),vK h1,h3,addr_add,h5]
theorem JQ_neI {x y : Operand} {m n : Int} {k : IntKind} {t u : TypeId} (hx : ev E x = some (.int k m)) (hy : ev E y = some (.int k n)) : JQ P N ⟨d,.binOp .neq t x y u,ty,pos,after,g⟩ E D L (.bool (decide (m ≠ n))) := fun F a hr w hs => by
  have : (m != n) = decide (m ≠ n) := by by_cases h : m = n <;> simp [h]
  simp [execOp,hr.eval hx,hr.eval hy,eqGuard,binOp,Op.intCmp,this]
theorem JQ_eqI {x y : Operand} {m n : Int} {k : IntKind} {t u : TypeId} (hx : ev E x = some (.int k m)) (hy : ev E y = some (.int k n)) : JQ P N ⟨d,.binOp .eql t x y u,ty,pos,after,g⟩ E D L (.bool (decide (m = n))) := fun F a hr w hs => by
  have : (m == n) = decide (m = n) := by by_cases h : m = n <;> simp [h]
  simp [execOp,hr.eval hx,hr.eval hy,eqGuard,binOp,Op.intCmp,this]
theorem JQ_len {x : Operand} {t e : TypeId} [TU P t (.slice e)] {p : Option Addr} {n c : Nat} (hx : ev E x = some (.slice p n c)) : JQ P N ⟨d,.call ⟨.builtin .len,#[x],#[t]⟩,ty,pos,after,g⟩ E D L (.int .i64 (n : Int)) := fun F a hr w hs => by
  simp [execOp,resolve,invoke,builtin,Builtin.len_,hr.eval hx,yM TU.h,goInt]
end
theorem lds_vw {n cap b o j : Nat} {cs : List Value} {u : Value} [hv : HV L (.slice (some ⟨b,o,none⟩) n cap) 1 n cs] (hj : j < n) (hu : cs[j]? = some u) : Lds L ⟨b,o + j * 1,none⟩ u := fun F' w' hs' => by
  obtain ⟨M',hM'⟩ := hv.h F' w' hs'
  obtain ⟨kk',⟨_,_,_,hle',_,hV',_⟩,m'⟩ := hM'
  obtain ⟨_,_,p'',cap'',h2',h3'⟩ := hV'
  cases h2'
  obtain ⟨b',o',all',e'',fz',hb',h5',h6'⟩ := h3'.resolve_left (by omega)
  cases hb'
  rw [Nat.mul_one]
  exact cell_of (at_obj (m' _ _ (hle' _ _ h5'))) (h6' _ _ hu)
end
end Go.Sp

/- A slice's front part;the lesser of two. -/
namespace Go.Sp
open Go.RowKit
section
variable {P : Program} {N : Nat} {rd : Option Nat} {E : Env} {D : List Deferred} {L : List HP} {Q : uF} {next : Env → List Deferred → List HP → Prop}
variable {d : Option Nat} {ty : TypeId} {pos : String} {after : Array Edge} {g : Option (Nat × Bool)}
theorem JO_front {t e : TypeId} [TU P t (.slice e)] {z : Value} {n k : Nat} [TI P e z n k] {x hi : Operand} {p : Option Addr} {len cap j : Nat} {ik : IntKind} (hx : ev E x = some (.slice p len cap)) (hh : ev E hi = some (.int ik (j : Int))) (hj : j ≤ cap) (hd : dok N d = true) (h : next (put E d (.slice p j cap)) D L) : JO P N rd ⟨d,.slice t x none (some hi) none,ty,pos,after,g⟩ E D L next Q :=
  JO_pure _ (fun c => by simp) hd (fun a w hr => by
    obtain ⟨i,h1,h2,h3,h4⟩ := TI.h (P := P) (t := e) (z := z) (n := n) (b := k)
    have h5 : (Instr.sliceAt t (.slice p len cap) none (some (.int ik (j : Int))) none).run P w = (Instr.slice t (.slice p len cap) none (some (.int ik (j : Int))) none).run P w := by simp [Instr.sliceAt,yM (TU.h (P := P) (t := t))]
    have h6 : (if cap = 0 then p else p.map (·.add (0 * i.size))) = p := by
      split
      · rfl
      · cases p with
        | none => rfl
        | some a => simp [Addr.add]
    simp [execOp,hr.eval hx,hr.eval hh,h5,Instr.slice,Instr.sliceBounds,yM (TU.h (P := P) (t := t)),run_sliceBound _ ik (j : Int) cap _ (by omega) (by omega),vK h1]
    simpa using h6) h
theorem run_eqB {t : TypeId} [TU P t .bool] (m n : Bool) (w : World) : (Op.equal t (.bool m) (.bool n)).run P w = .ok (m == n) w := by
  unfold Op.equal
  rw [show Op.maxDepth = 9999 + 1 from rfl]
  unfold Op.equalIn
  simp [yM (TU.h (P := P) (t := t))]
end
end Go.Sp

/- Regions that draw their order,read,and call functions that leave what they read: one order of them is as good as all. -/
namespace Go.Sp
open Go.RowKit
section
variable {P : Program} {N : Nat} {E : Env} {D : List Deferred} {L L0 : List HP} {Q : uF}
variable (P N) in
def JG (ops : Array Oper) (fuel : Nat) (ls : List Bool) (E : Env) (D : List Deferred) (L L0 : List HP) (Q : uF) : Prop :=
  ∀ (F : HP) (a : Act) (w : World),Rep N E D a → Sat w (F :: L) → wpAnyH P .any ops (lift N F Q) (fun w => Sat w (F :: L0)) fuel ls.toArray a w
theorem vO [Mixed P] {id : Nat} {ops : Array Oper} (h : JG P N ops (cnt ops.toList) (flags ops.toList) E D L L Q) : J P N none (.region id ops true) E D L Q := fun F a w hr hs => by
  refine (wpIn_wide (n := 0)).2 (wp_region_held (S := fun w => Sat w (F :: L)) Mixed.h ?_)
  have := h F a { w with drawn := w.drawn + 1 } hr (hs.world rfl)
  rw [flags_eq,cnt_eq,List.toArray_replicate,Array.length_toList] at this
  exact this
theorem JG_take [hc : CalmQ Q] {ops : Array Oper} {fuel : Nat} {ls : List Bool} (i : Nat) {o : Oper} {v : Value} (ho : ops.toList[i]? = some o) (hg : o.guard = none) (hs : Region.noSelect ops = true) (hf : Region.free .any ops ls.toArray i = true)
    (hr : (Region.ready .any ops ls.toArray).contains i = true) (hd : dok N o.dst = true) (hl : Ent L L0) (hq : JQ P N o E D L0 v) (h : JG P N ops fuel (ls.set i true) (put E o.dst v) D L L0 Q) : JG P N ops (fuel + 1) ls E D L L0 Q := by
  intro F a w hrep hsat
  rw [Array.getElem?_toList] at ho
  refine wpAnyH_take (v := v) ho hs hf hr ?_ (.inl ⟨by simp [Region.wanted,hg],fun w hw => hq F a hrep w hw⟩) (hl F w hsat) ?_
  · rintro c a' w' ⟨E',D',L',q,_⟩
    exact absurd q (hc.h c E' D' L')
  · have := h F (a.put o.dst v) w (hrep.put hd v) hsat
    rw [List.setIfInBounds_toArray]
    exact this
theorem JG_takeW [hc : CalmQ Q] {ops : Array Oper} {fuel : Nat} {ls : List Bool} (i : Nat) {o : Oper} {v : Value} {j : Nat} {want : Bool} (ho : ops.toList[i]? = some o) (hg : o.guard = some (j,want)) (hv : gval ops E j = some want) (hs : Region.noSelect ops = true) (hf : Region.free .any ops ls.toArray i = true)
    (hr : (Region.ready .any ops ls.toArray).contains i = true) (hd : dok N o.dst = true) (hl : Ent L L0) (hq : JQ P N o E D L0 v) (h : JG P N ops fuel (ls.set i true) (put E o.dst v) D L L0 Q) : JG P N ops (fuel + 1) ls E D L L0 Q := by
  intro F a w hrep hsat
  rw [Array.getElem?_toList] at ho
  refine wpAnyH_take (v := v) ho hs hf hr ?_ (.inl ⟨by simp [Region.wanted,hg,yielded_of hrep hv],fun w hw => hq F a hrep w hw⟩) (hl F w hsat) ?_
  · rintro c a' w' ⟨E',D',L',q,_⟩
    exact absurd q (hc.h c E' D' L')
  · have := h F (a.put o.dst v) w (hrep.put hd v) hsat
    rw [List.setIfInBounds_toArray]
    exact this
theorem gnone_of {all : Array Oper} {a : Act} {j : Nat} (hr : Rep N E D a) (hv : gnone all E j = true) : yielded all a.tmps j = none := by
  unfold gnone at hv
  split at hv
  · rename_i o' ho
    split at hv
    · rename_i d' hd'
      split at hv
      · rename_i vs hb
        have := hr.2.2 d' _ hb
        simp [yielded,ho,hd',this]
      · cases hv
    · cases hv
  · cases hv
theorem JG_passA [hc : CalmQ Q] {ops : Array Oper} {fuel : Nat} {ls : List Bool} (i : Nat) {o : Oper} (ho : ops.toList[i]? = some o) (hw : ∀ a,Rep N E D a → Region.wanted o (yielded ops a.tmps) = false) (hs : Region.noSelect ops = true) (hf : Region.free .any ops ls.toArray i = true)
    (hr : (Region.ready .any ops ls.toArray).contains i = true) (hd : dok N o.dst = true) (hl : Ent L L0) (h : JG P N ops fuel (ls.set i true) (put E o.dst undef) D L L0 Q) : JG P N ops (fuel + 1) ls E D L L0 Q := by
  intro F a w hrep hsat
  rw [Array.getElem?_toList] at ho
  refine wpAnyH_take (v := undef) ho hs hf hr ?_ (.inr ⟨hw a hrep,rfl⟩) (hl F w hsat) ?_
  · rintro c a' w' ⟨E',D',L',q,_⟩
    exact absurd q (hc.h c E' D' L')
  · have := h F (a.put o.dst undef) w (hrep.put hd undef) hsat
    rw [List.setIfInBounds_toArray]
    exact this
theorem JG_pass [hc : CalmQ Q] {ops : Array Oper} {fuel : Nat} {ls : List Bool} (i : Nat) {o : Oper} {j : Nat} {want : Bool} (ho : ops.toList[i]? = some o) (hg : o.guard = some (j,want)) (hv : gval ops E j = some (!want)) (hs : Region.noSelect ops = true) (hf : Region.free .any ops ls.toArray i = true)
    (hr : (Region.ready .any ops ls.toArray).contains i = true) (hd : dok N o.dst = true) (hl : Ent L L0) (h : JG P N ops fuel (ls.set i true) (put E o.dst undef) D L L0 Q) : JG P N ops (fuel + 1) ls E D L L0 Q :=
  JG_passA i ho (fun a hrep => by simp only [Region.wanted,hg,yielded_of hrep hv];cases want <;> rfl) hs hf hr hd hl h
theorem JG_end {ops : Array Oper} {fuel : Nat} {ls : List Bool} (hr : Region.ready .any ops ls.toArray = []) (h : Q .normal E D L) : JG P N ops fuel ls E D L L0 Q :=
  fun _ _ _ hrep hsat => wpAnyH_done hr ⟨E,D,L,h,hrep,hsat⟩ fuel
section
variable {d : Option Nat} {ty : TypeId} {pos : String} {after : Array Edge} {g : Option (Nat × Bool)}
theorem JQ_not {x : Operand} {t : TypeId} {b : Bool} (hx : ev E x = some (.bool b)) : JQ P N ⟨d,.unOp .not t x,ty,pos,after,g⟩ E D L (.bool (!b)) := fun F a hr w hs => by simp [execOp,hr.eval hx,Op.unary]
theorem JQ_pickT {c x y : Operand} {v : Value} (hc : ev E c = some (.bool true)) (hx : ev E x = some v) : JQ P N ⟨d,.pick c x y,ty,pos,after,g⟩ E D L v := fun F a hr w hs => by simp [execOp,hr.eval hc,hr.eval hx,asBool]
theorem JQ_pickF {c x y : Operand} {v : Value} (hc : ev E c = some (.bool false)) (hx : ev E y = some v) : JQ P N ⟨d,.pick c x y,ty,pos,after,g⟩ E D L v := fun F a hr w hs => by simp [execOp,hr.eval hc,hr.eval hx,asBool]
theorem xF {t n : TypeId} [TA P t n] {x : Operand} {b o : Nat} (cs : List Value) (hx : ev E x = some (.pointer (some ⟨b,o,none⟩))) (hl : ∀ i u,cs[i]? = some u → Lds L ⟨b,o + i,none⟩ u) (hn : cs.length = n) : JQ P N ⟨d,.load t x,ty,pos,after,g⟩ E D L (.agg cs.toArray) := fun F a hr w hs => by
  obtain ⟨_,i,hi,hsz⟩ := TA.h (P := P) (t := t) (n := n)
  have := run_loadCells_list (P := P) (w := w) ⟨b,o,none⟩ cs (fun j v hj => by rw [addr_add];exact hl j v hj F w hs)
  rw [hn] at this
  simp [execOp,Instr.loadAt,Instr.sureAddr,hr.eval hx,loadVar,run_isAggA (P := P) (t := t) (n := n),vK hi,hsz,this]
theorem xG {n cap b o j sz i : Nat} {cs : List Value} {u : Value} [hv : HV L (.slice (some ⟨b,o,none⟩) n cap) sz n cs] (hj : j < n) (hu : cs[j * sz + i]? = some u) : Lds L ⟨b,o + j * sz + i,none⟩ u := fun F' w' hs' => by
  obtain ⟨M',hM'⟩ := hv.h F' w' hs'
  obtain ⟨kk',⟨_,_,_,hle',_,hV',_⟩,m'⟩ := hM'
  obtain ⟨_,_,p'',cap'',h2',h3'⟩ := hV'
  cases h2'
  obtain ⟨b',o',all',e'',fz',hb',h5',h6'⟩ := h3'.resolve_left (by omega)
  cases hb'
  have := cell_of (at_obj (m' _ _ (hle' _ _ h5'))) (h6' _ _ hu)
  rw [Nat.add_assoc]
  exact this
theorem xW {sz n cap : Nat} {p : Option Addr} {cs : List Value} (hn : 0 < n) (k : Part) (h : Vw sz (.slice p n cap) n cs k) : ∃ b o,p = some ⟨b,o,none⟩ := by
  obtain ⟨_,_,p',cap',h2,h3⟩ := h
  cases h2
  obtain ⟨b,o,_,_,_,h4,_⟩ := h3.resolve_left (by omega)
  exact ⟨b,o,h4⟩
end
end
end Go.Sp

/- Remainders,conversions of Nats,places in arrays;whole values stored into rows;a row's front part. -/
namespace Go.Sp
open Go.RowKit
theorem flat_take {α : Type} {k : Nat} {f : α → List Value} (hf : ∀ x,(f x).length = k) : ∀ (xs : List α) (m : Nat),(xs.flatMap f).take (m * k) = (xs.take m).flatMap f
  | [],m => by simp
  | x :: xs,0 => by simp
  | x :: xs,m + 1 => by
    rw [List.flatMap_cons,List.take_succ_cons,List.flatMap_cons,show (m + 1) * k = (f x).length + m * k by rw [hf,Nat.add_mul,Nat.one_mul,Nat.add_comm],List.take_length_add_append,flat_take hf xs m]
theorem vw_take {sz n m cap : Nat} {p : Option Addr} {cs : List Value} (hm : m ≤ n) (k : Part) (h : Vw sz (.slice p n cap) n cs k) : Vw sz (.slice p m cap) m (cs.take (m * sz)) k := by
  obtain ⟨h1,h2,p',cap',h3,h4⟩ := h
  cases h3
  have hle : m * sz ≤ n * sz := Nat.mul_le_mul_right _ hm
  refine ⟨by rw [List.length_take];omega,by omega,p,cap,rfl,?_⟩
  by_cases h0 : m = 0
  · exact .inl h0
  · right
    obtain ⟨b,o,all,e,fz,h5,h6,h7⟩ := h4.resolve_left (by omega)
    refine ⟨b,o,all,e,fz,h5,h6,fun i u hu => h7 i u ?_⟩
    rw [List.getElem?_take] at hu
    split at hu
    · exact hu
    · cases hu
theorem lds_eq {L : List HP} {b o o' : Nat} {v : Value} (h : Lds L ⟨b,o,none⟩ v) (e : o = o') : Lds L ⟨b,o',none⟩ v := e ▸ h
section
variable {P : Program} {N : Nat} {rd : Option Nat} {E : Env} {D : List Deferred} {L : List HP} {Q : uF} {next : Env → List Deferred → List HP → Prop}
variable {d : Option Nat} {ty : TypeId} {pos : String} {after : Array Edge} {g : Option (Nat × Bool)}
theorem storeCells_off {b o : Nat} : ∀ (vs : List Value) (i : Nat),storeCells ⟨b,o,none⟩ vs i = storeCells ⟨b,0,none⟩ vs (o + i)
  | [],i => rfl
  | v :: vs,i => by simp only [storeCells,addr_add,storeCells_off vs (i + 1),Nat.zero_add,Nat.add_assoc]
theorem JO_storeM {t : TypeId} {z : Value} {n k : Nat} [TI P t z n k] {x y : Operand} {b off : Nat} {cs pre old post vs : List Value} {bt : TypeId} {L' : Obj → List HP} (hx : ev E x = some (.pointer (some ⟨b,off,none⟩))) (hy : ev E y = some (.agg vs.toArray))
    [hb : WB L b (.cells cs.toArray bt (0,0)) L'] (hcs : cs = pre ++ old ++ post) (ho : off = pre.length) (hn : vs.length = n) (hn' : old.length = n) (hv : ∀ v ∈ vs,v.oneCell' = true) (hd : dok N d = true)
    (h : next (put E d undef) D (L' (.cells (pre ++ vs ++ post).toArray bt (0,0)))) : JO P N rd ⟨d,.store t x y,ty,pos,after,g⟩ E D L next Q :=
  JO_unit (fun c => by simp) hd fun F a w hr hs' => by
    obtain ⟨i,h1,h2,h3,h4⟩ := TI.h (P := P) (t := t) (z := z) (n := n) (b := k)
    obtain ⟨hb1,hb2⟩ := hb.h F w hs'
    subst hcs;subst ho
    have hst := run_storeCells_all (P := P) (b := b) (t := bt) vs pre post w hv old (by omega) hb1
    refine ⟨_,_,?_,hb2 _,h⟩
    have e := storeCells_off (b := b) (o := pre.length) vs 0
    rw [Nat.add_zero] at e
    simp [execOp,Instr.storeAt,Instr.sureAddr,hr.eval hx,hr.eval hy,storeVar,Value.cells,vK h1,h3,hn,e,hst]
theorem J_ownv {c : Code} {e sz : Nat} {v : Value} {n : Nat} {cs : List Value} (h : ∀ p cap,v = .slice p n cap → J P N rd c E D (yC e sz v n cs :: L) Q) : J P N rd c E D (yC e sz v n cs :: L) Q := by
  intro F a w hr hs
  obtain ⟨_,⟨h1,h2,_⟩ | ⟨b,sp,cap,h1,_⟩⟩ := hs.swap.own_cases
  · exact h none 0 (by rw [h1,h2]) F a w hr hs
  · exact h _ cap h1 F a w hr hs
end
end Go.Sp

/- Drawn regions: the next one that only reads,found by reckoning;more operations that only read. -/
namespace Go.Sp
open Go.RowKit
def quietO (o : Oper) : Bool := match o.op with | .call ⟨.value _,_,_⟩ => false | .store _ _ _ => false | .mapUpdate _ _ _ _ => false | .insert _ _ _ _ => false | _ => true
def findQ (ops : Array Oper) (ls : List Bool) : List Nat → Option Nat
  | [] => none
  | i :: r => match rdy ops ls i with
    | true => match ops.toList[i]? with
      | some o => match quietO o with | true => some i | false => findQ ops ls r
      | none => findQ ops ls r
    | false => findQ ops ls r
theorem findQ_rdy {ops : Array Oper} {ls : List Bool} {i : Nat} : ∀ {l : List Nat},findQ ops ls l = some i → i ∈ l ∧ rdy ops ls i = true := by
  intro l
  induction l with
  | nil => intro h;cases h
  | cons j r ih =>
    intro h
    have keep : findQ ops ls r = some i → i ∈ j :: r ∧ rdy ops ls i = true := fun h => ⟨List.mem_cons_of_mem _ (ih h).1,(ih h).2⟩
    simp only [findQ] at h
    split at h
    · rename_i hr
      split at h
      · split at h
        · cases h;exact ⟨by simp,hr⟩
        · exact keep h
      · exact keep h
    · exact keep h
theorem findQ_ready {ops : Array Oper} {ls : List Bool} {i : Nat} (h : findQ ops ls (idxs ops.toList 0) = some i) : (Region.ready .any ops ls.toArray).contains i = true := by
  obtain ⟨h1,h2⟩ := findQ_rdy h
  rw [← idxs_range] at h1
  rw [rdy_eq]
  simpa using ⟨by simpa using h1,h2⟩
instance calm_cutQ (E' : Env) (D' : List Deferred) (L' : List HP) (Q : uF) [h : CalmQ Q] : CalmQ (cutQ E' D' L' Q) := ⟨fun ch E D L q => h.h ch E D L q⟩
instance calm_cutX {α : Sort _} (E' : α → Env) (D' : List Deferred) (L' : α → List HP) (Q : uF) [h : CalmQ Q] : CalmQ (cutX E' D' L' Q) := ⟨fun ch E D L q => h.h ch E D L q⟩
section
variable {P : Program} {N : Nat} {E : Env} {D : List Deferred} {L L0 : List HP} {Q : uF}
theorem JG_n [CalmQ Q] {ops : Array Oper} {fuel : Nat} {ls : List Bool} {i : Nat} {o : Oper} {v : Value} (hn : findQ ops ls (idxs ops.toList 0) = some i) (ho : ops.toList[i]? = some o) (hg : o.guard = none) (hs : Region.noSelect ops = true) (hf : Region.free .any ops ls.toArray i = true)
    (hd : dok N o.dst = true) (hl : Ent L L0) (hq : JQ P N o E D L0 v) (h : JG P N ops fuel (ls.set i true) (put E o.dst v) D L L0 Q) : JG P N ops (fuel + 1) ls E D L L0 Q := JG_take i ho hg hs hf (findQ_ready hn) hd hl hq h
theorem JG_nW [CalmQ Q] {ops : Array Oper} {fuel : Nat} {ls : List Bool} {i : Nat} {o : Oper} {v : Value} {j : Nat} {want : Bool} (hn : findQ ops ls (idxs ops.toList 0) = some i) (ho : ops.toList[i]? = some o) (hg : o.guard = some (j,want)) (hv : gval ops E j = some want) (hs : Region.noSelect ops = true) (hf : Region.free .any ops ls.toArray i = true)
    (hd : dok N o.dst = true) (hl : Ent L L0) (hq : JQ P N o E D L0 v) (h : JG P N ops fuel (ls.set i true) (put E o.dst v) D L L0 Q) : JG P N ops (fuel + 1) ls E D L L0 Q := JG_takeW i ho hg hv hs hf (findQ_ready hn) hd hl hq h
theorem JG_nP [CalmQ Q] {ops : Array Oper} {fuel : Nat} {ls : List Bool} {i : Nat} {o : Oper} {j : Nat} {want : Bool} (hn : findQ ops ls (idxs ops.toList 0) = some i) (ho : ops.toList[i]? = some o) (hg : o.guard = some (j,want)) (hv : gval ops E j = some (!want)) (hs : Region.noSelect ops = true) (hf : Region.free .any ops ls.toArray i = true)
    (hd : dok N o.dst = true) (hl : Ent L L0) (h : JG P N ops fuel (ls.set i true) (put E o.dst undef) D L L0 Q) : JG P N ops (fuel + 1) ls E D L L0 Q := JG_pass i ho hg hv hs hf (findQ_ready hn) hd hl h
theorem tA {ops : Array Oper} {fuel : Nat} {ls : List Bool} (hr : orL (rdy ops ls) (idxs ops.toList 0) = false) (h : Q .normal E D L) : JG P N ops fuel ls E D L L0 Q := by
  refine JG_end ?_ h
  rw [orL_eq,← idxs_range] at hr
  rw [rdy_eq,List.filter_eq_nil_iff]
  intro i hi hr'
  rw [List.any_eq_false] at hr
  exact hr i hi hr'
theorem J_regionGS [Mixed P] (L0 : List HP) {id : Nat} {ops : Array Oper} (h : JG P N ops (cnt ops.toList) (flags ops.toList) E D L L0 Q) : J P N none (.region id ops true) E D L Q := fun F a w hr hs => by
  refine (wpIn_wide (n := 0)).2 (wp_region_held (S := fun w => Sat w (F :: L0)) Mixed.h ?_)
  have := h F a { w with drawn := w.drawn + 1 } hr (hs.world rfl)
  rw [flags_eq,cnt_eq,List.toArray_replicate,Array.length_toList] at this
  exact this
theorem run_then_skip {P : Program} (s : Sem Unit) (w w' : World) (n : Next) (h : (do s;pure Next.skip : Sem Next).run P w = .ok n w') : n = .skip := by
  rw [Sem.run_bind] at h
  cases hr : s.run P w with
  | ok u w1 => rw [hr] at h;simp only [Result.andThen_ok,Sem.run_pure,Result.ok.injEq] at h;exact h.1.symm
  | halt x w1 => rw [hr] at h;cases h
section
variable {d : Option Nat} {ty : TypeId} {pos : String} {after : Array Edge} {g : Option (Nat × Bool)}
section ints
variable {x y : Operand} {m n : Int} {k : IntKind} {t u : TypeId}
theorem JQ_lss (hx : ev E x = some (.int k m)) (hy : ev E y = some (.int k n)) : JQ P N ⟨d,.binOp .lss t x y u,ty,pos,after,g⟩ E D L (.bool (decide (m < n))) := fun F a hr w hs => by simp [execOp,hr.eval hx,hr.eval hy,eqGuard,binOp,Op.intCmp]
theorem JQ_leq (hx : ev E x = some (.int k m)) (hy : ev E y = some (.int k n)) : JQ P N ⟨d,.binOp .leq t x y u,ty,pos,after,g⟩ E D L (.bool (decide (m ≤ n))) := fun F a hr w hs => by simp [execOp,hr.eval hx,hr.eval hy,eqGuard,binOp,Op.intCmp]
theorem JQ_gtr (hx : ev E x = some (.int k m)) (hy : ev E y = some (.int k n)) : JQ P N ⟨d,.binOp .gtr t x y u,ty,pos,after,g⟩ E D L (.bool (decide (n < m))) := fun F a hr w hs => by simp [execOp,hr.eval hx,hr.eval hy,eqGuard,binOp,Op.intCmp]
theorem JQ_geq (hx : ev E x = some (.int k m)) (hy : ev E y = some (.int k n)) : JQ P N ⟨d,.binOp .geq t x y u,ty,pos,after,g⟩ E D L (.bool (decide (n ≤ m))) := fun F a hr w hs => by simp [execOp,hr.eval hx,hr.eval hy,eqGuard,binOp,Op.intCmp]
theorem JQ_sub (hx : ev E x = some (.int .i64 m)) (hy : ev E y = some (.int .i64 n)) (hb : -9223372036854775808 ≤ m - n ∧ m - n ≤ 9223372036854775807) : JQ P N ⟨d,.binOp .sub t x y u,ty,pos,after,g⟩ E D L (.int .i64 (m - n)) := fun F a hr w hs => by
  simp [execOp,hr.eval hx,hr.eval hy,eqGuard,binOp,Op.intArith,wrap_in hb]
theorem JQ_add (hx : ev E x = some (.int .i64 m)) (hy : ev E y = some (.int .i64 n)) (hb : -9223372036854775808 ≤ m + n ∧ m + n ≤ 9223372036854775807) : JQ P N ⟨d,.binOp .add t x y u,ty,pos,after,g⟩ E D L (.int .i64 (m + n)) := fun F a hr w hs => by
  simp [execOp,hr.eval hx,hr.eval hy,eqGuard,binOp,Op.intArith,wrap_in hb]
end ints
theorem vT {x : Operand} {v : Value} (hx : ev E x = some v) : JQ P N ⟨d,.assign x,ty,pos,after,g⟩ E D L v := fun F a hr w hs => by simp [execOp,hr.eval hx]
theorem JQ_build {t : TypeId} {zc : List Value} {n k : Nat} [TI P t (.agg zc.toArray) n k] {pl : List (Nat × Nat)} [TB P t pl] {parts : Array (Nat × Operand)} {vs : List (Nat × Value)} {cs : List Value} (hp : pevs E parts.toList = some vs) (hf : fillL pl zc vs = some cs) :
    JQ P N ⟨d,.build t parts,ty,pos,after,g⟩ E D L (.agg cs.toArray) := fun F a hr w hs => by
  obtain ⟨i,h1,h2,h3,h4⟩ := TI.h (P := P) (t := t) (z := .agg zc.toArray) (n := n) (b := k)
  have hpl := TB.h (P := P) (t := t) (pl := pl)
  unfold placesOf at hpl
  cases hu : P.underlying t with
  | none => simp [hu] at hpl
  | some td =>
    cases td with
    | struct fs =>
      simp only [hu] at hpl
      have h5 := run_places _ _ hpl w
      have h6 := fill_eq pl vs zc cs hf
      have h7 := hr.pevs hp
      have h8 : (fs.mapM fun f => Prod.mk f.offset <$> sizeOf f.type : Sem (Array (Nat × Nat))).run P w = .ok pl.toArray w := by
        rw [Array.mapM_eq_mapM_toList]
        simp only [Sem.run_map,h5]
        rfl
      simp [execOp,Instr.build,run_zeroValue' h1 h2,yM hu,h8,Value.cells,Array.toList_map,h7,h6]
    | _ => simp [hu] at hpl
theorem xL {t : TypeId} [T1 P t] {x : Operand} {b off : Nat} {cs : List Value} {bt : TypeId} {fz : Nat × Nat} {v : Value} (hx : ev E x = some (.pointer (some ⟨b,off,none⟩))) [HB L b (.cells cs.toArray bt fz)] [hg : GetAt cs off v] : JQ P N ⟨d,.load t x,ty,pos,after,g⟩ E D L v := tC hx (wB hg.h)
theorem xP {s f off ft n : Nat} [TF P s f off ft n] {x : Operand} {b : Nat} (hx : ev E x = some (.pointer (some ⟨b,0,none⟩))) : JQ P N ⟨d,.fieldAddr s x f,ty,pos,after,g⟩ E D L (.pointer (some ⟨b,off,none⟩)) := by
  have := JQ_field (P := P) (N := N) (E := E) (D := D) (L := L) (d := d) (ty := ty) (pos := pos) (after := after) (g := g) (s := s) (f := f) hx
  rw [Nat.zero_add] at this
  exact this
theorem JQ_index1 {t e : TypeId} [TU P t (.slice e)] {z : Value} {k : Nat} [TI P e z 1 k] {x y : Operand} {b o len cap j : Nat} {ik : IntKind} (hx : ev E x = some (.slice (some ⟨b,o,none⟩) len cap)) (hy : ev E y = some (.int ik (j : Int))) (hj : j < len) :
    JQ P N ⟨d,.indexAddr t x y,ty,pos,after,g⟩ E D L (.pointer (some ⟨b,o + j,none⟩)) := by
  have := JQ_index (P := P) (N := N) (E := E) (D := D) (L := L) (d := d) (ty := ty) (pos := pos) (after := after) (g := g) (t := t) (n := 1) hx hy hj
  rw [Nat.mul_one] at this
  exact this
theorem lds_vw1 {n cap b o j : Nat} {cs : List Value} {u : Value} [hv : HV L (.slice (some ⟨b,o,none⟩) n cap) 1 n cs] (hj : j < n) (hu : cs[j]? = some u) : Lds L ⟨b,o + j,none⟩ u := by
  have := lds_vw (L := L) (n := n) (cap := cap) (b := b) (o := o) hj hu
  rw [Nat.mul_one] at this
  exact this
end
end
end Go.Sp

/- Made rows of structs;a slice's rear part;lists of rows,put together. -/
namespace Go.Sp
open Go.RowKit
section
variable {P : Program} {N : Nat} {rd : Option Nat} {E : Env} {D : List Deferred} {L : List HP} {Q : uF} {next : Env → List Deferred → List HP → Prop}
variable {d : Option Nat} {ty : TypeId} {pos : String} {after : Array Edge} {g : Option (Nat × Bool)}
end
end Go.Sp

/- Drawn regions that make memory: whichever order;of each operation is said what its value is like,once it is there. -/
namespace Go.Sp
open Go.RowKit
def HasP (L : List HP) (A : HP) : Prop := Ent L (A :: L)
theorem Ent.under {L M : List HP} (h : Ent L M) : ∀ K : List HP,Ent (K ++ L) (K ++ M)
  | [] => h
  | _ :: K => Ent.keep (Ent.under h K)
theorem Ent.perm {L M : List HP} (p : L.Perm M) : Ent L M := fun F _ hs => hs.perm (p.cons F)
theorem HasP.ext {L : List HP} {A : HP} (h : HasP L A) (K : List HP) : HasP (K ++ L) A := (Ent.under h K).trans (Ent.perm List.perm_middle)
theorem HasP.head {L : List HP} {A : HP} (hp : Pers A) : HasP (A :: L) A := fun _ _ hs => ((hs.swap).dup hp).perm (((List.Perm.swap _ _ _).cons _).trans (List.Perm.swap _ _ _))
theorem Ent.rest : ∀ (K L : List HP),Ent (K ++ L) L
  | [],_ => Ent.refl _
  | _ :: K,L => fun F w hs => Ent.rest K L F w (hs.swap.tail)
def depB (o : Oper) (j : Nat) : Bool := o.after.toList.any fun e => Region.binds .any e && Nat.beq e.on j
section
variable {P : Program} {N : Nat} {D : List Deferred} {Q : uF}
end
end Go.Sp

/- Panics;deferred calls;functions that recover. -/
namespace Go.Sp
open Go.RowKit
section
variable {P : Program} {N : Nat} {rd : Option Nat} {E : Env} {D : List Deferred} {L : List HP} {Q : uF} {next : Env → List Deferred → List HP → Prop}
variable {d : Option Nat} {ty : TypeId} {pos : String} {after : Array Edge} {g : Option (Nat × Bool)}
theorem JO_panic {x : Operand} {t : TypeId} {v : Value} (hx : ev E x = some (.iface t v)) (h : Q (.panic [{ v := .iface t v,recovered := false }]) E D L) : JO P N rd ⟨d,.panic x,ty,pos,after,g⟩ E D L next Q := by
  intro F a w hr hs nx hnx
  refine ⟨fun _ _ => trivial,?_⟩
  rw [Oper.semAt_eq _ _ _ (fun c => by simp)]
  have e : (execOp a.eval ⟨d,.panic x,ty,pos,after,g⟩).run P w = .halt (.panic (.iface t v)) w := by
    have e0 : (Instr.panic (.iface t v)).run P w = .halt (.panic (.iface t v)) w := rfl
    simp [execOp,hr.eval hx,e0,Result.andThen]
  rw [e,Oper.uponIn_panic]
  exact ⟨E,D,L,h,hr,hs⟩
theorem JO_defer {f : FuncId} {args : Array Operand} {ts : Array TypeId} {vs : List Value} (hx : evs E args.toList = some vs) (h : next E (⟨.fn (.func f) #[],vs.toArray⟩ :: D) L) :
    JO P N none ⟨none,.defer ⟨.value (.func f),args,ts⟩,ty,pos,after,g⟩ E D L next Q := by
  intro F a w hr hs nx hnx
  refine ⟨fun _ _ => trivial,?_⟩
  have e1 : args.map a.eval = vs.toArray := by rw [← hr.evals hx];apply Array.ext';simp
  have e : (Oper.semAt (FW none).round a.eval ⟨none,.defer ⟨.value (.func f),args,ts⟩,ty,pos,after,g⟩).run P w = .ok (.defer ⟨.fn (.func f) #[],vs.toArray⟩) w := by
    rw [show (FW none).round = none from rfl,Oper.semAt_none]
    simp [execOp,resolve,e1,Act.eval,Deferred.ofValue]
  rw [e,Oper.uponIn_defer]
  refine hnx _ _ _ _ _ h ⟨hr.1,?_,hr.2.2⟩ hs
  simp [Act.put,hr.2.1]
end
def CtD (P : Program) (f : FuncId) (args : Array Value) (u : FrameMode) (L : List HP) (R : Ending → FrameMode → List HP → Prop) : Prop :=
  ∀ (F : HP) (w : World),Sat w (F :: L) → CallsDIn (FW none) 0 P f args u w fun e u' w' => e ≠ .outgrown ∧ ∃ L',R e u' L' ∧ Sat w' (F :: L')
theorem callsD_mono {F : Fence} {n : Nat} {P : Program} {f : FuncId} {args : Array Value} {u : FrameMode} {w : World} {R R' : Ending → FrameMode → World → Prop} (h : CallsDIn F n P f args u w R) (hr : ∀ e u' w',R e u' w' → R' e u' w') : CallsDIn F n P f args u w R' :=
  ⟨h.1,fun c cs hu hroom => let ⟨e,u',w',fr,r,rest⟩ := h.2 c cs hu hroom;⟨e,u',w',fr,hr _ _ _ r,rest⟩⟩
theorem CtD.mono {P : Program} {f : FuncId} {args : Array Value} {u : FrameMode} {L : List HP} {R R' : Ending → FrameMode → List HP → Prop} (h : CtD P f args u L R) (hr : ∀ e u' L',R e u' L' → R' e u' L') : CtD P f args u L R' :=
  fun F w hs => callsD_mono (h F w hs) fun _ _ _ ⟨hne,L',r,s⟩ => ⟨hne,L',hr _ _ _ r,s⟩
theorem CtD.frame {P : Program} {f : FuncId} {args : Array Value} {u : FrameMode} {L : List HP} {R : Ending → FrameMode → List HP → Prop} (h : CtD P f args u L R) (M : List HP) : CtD P f args u (L ++ M) fun e u' L'' => ∃ L',R e u' L' ∧ L'' = L' ++ M := by
  intro F w hs
  have hs' : Sat w (Star (F :: M) :: L) := by
    refine Sat.fold.1 (hs.perm ?_)
    refine List.Perm.cons F ?_
    exact List.perm_append_comm
  refine callsD_mono (h _ w hs') ?_
  rintro e u' w' ⟨hne,L',hR,hs2⟩
  refine ⟨hne,L' ++ M,⟨L',hR,rfl⟩,?_⟩
  refine (Sat.fold.2 hs2).perm ?_
  exact List.Perm.cons F List.perm_append_comm
theorem CtD.heap {P : Program} {f : FuncId} {args : Array Value} {u : FrameMode} {L L' : List HP} {R : Ending → FrameMode → List HP → Prop} (hL : Ent L L') (h : CtD P f args u L' R) : CtD P f args u L R := fun F w hs => h F w (hL F w hs)
def xB (P : Program) (N : Nat) (fn : Func) (R : Ending → List HP → Prop) (E : Env) : List Deferred → FrameMode → List HP → Prop
  | [],.returning,L => ∃ v,Res P N fn E L v ∧ R (.returned v) L
  | [],.panicking ch,L => R (.panicked ch) L
  | [],.run,_ => False
  | d :: ds,u,L => u ≠ .run ∧ ∃ f,d.target = .fn (.func f) #[] ∧ CF P f ∧ CtD P f d.args u L fun e u' L' => match e with
    | .returned _ => xB P N fn R E ds (settle u') L'
    | .panicked ch => xB P N fn R E ds (raised u' ch) L'
    | .outgrown => False
section
variable {P : Program} {N : Nat} {fn : Func} {R : Ending → List HP → Prop}
theorem leaves_q : ∀ (ds : List Deferred) (u : FrameMode) (L : List HP) (E : Env) (D0 : List Deferred) (F : HP) (a : Act) (w : World),xB P N fn R E ds u L → Rep N E D0 a → Sat w (F :: L) →
    LeavesIn (FW none) 0 P fn a.tmps (fun e w' => e ≠ .outgrown ∧ ∃ L',R e L' ∧ Sat w' (F :: L')) ds u w := by
  intro ds
  induction ds with
  | nil =>
    intro u L E D0 F a w h hr hs
    cases u with
    | run => exact h.elim
    | returning => obtain ⟨v,hv,hR⟩ := h;exact ⟨v,hv F a w D0 hr hs,by simp,L,hR,hs⟩
    | panicking ch => exact ⟨by simp,L,h,hs⟩
  | cons d ds ih =>
    intro u L E D0 F a w h hr hs
    obtain ⟨hu,f,ht,hcf,hc⟩ := h
    refine ⟨hu,fun h => by simp [FW,Fence.wide] at h,.func f,#[],f,d.args,ht,?_,fun _ _ => trivial,?_⟩
    · rw [ht]
      simp [invoke,hcf.h]
    · refine callsD_mono (hc F w hs) ?_
      rintro e u' w' ⟨hne,L',hR,hs'⟩
      cases e with
      | returned v => exact ih _ _ E D0 F a w' hR hr hs'
      | panicked ch => exact ih _ _ E D0 F a w' hR hr hs'
      | outgrown => exact hR.elim
def bodyQD (P : Program) (N : Nat) (fn : Func) (R : Ending → List HP → Prop) : uF
  | .normal,E,D,L | .ret,E,D,L => xB P N fn R E D .returning L
  | .panic ch,E,D,L => xB P N fn R E D (.panicking ch) L
  | _,_,_,_ => False
theorem fn_bodyD {f : FuncId} {c : Code} {vs : List Value} {L : List HP} (hf : P.funcs[f]? = some fn) (hb : fn.body = some c) (hn : fn.ntmps = N) (hN : vs.length ≤ N)
    (h : J P N none c (argEnv 0 vs) [] L (bodyQD P N fn R)) : Ct P f vs.toArray L R := by
  intro F w hs
  refine (callsIn_wide (n := 0)).1 (callsIn_of_wp_defers hf hb trivial ?_ rfl)
  have h1 := h F _ w (rep_args vs hN) hs
  rw [hn]
  refine wpIn_mono h1 ?_
  rintro e a w' ⟨E,D,L',q,r,s⟩
  have hd := r.2.1
  cases e with
  | normal =>
    show LeavesIn (FW none) 0 P fn a.tmps _ a.defers _ w'
    rw [hd]
    exact leaves_q D _ L' E D F a w' q r s
  | ret =>
    show LeavesIn (FW none) 0 P fn a.tmps _ a.defers _ w'
    rw [hd]
    exact leaves_q D _ L' E D F a w' q r s
  | panic ch =>
    show LeavesIn (FW none) 0 P fn a.tmps _ a.defers _ w'
    rw [hd]
    exact leaves_q D _ L' E D F a w' q r s
  | exit id => exact q.elim
  | goto l => exact q.elim
  | outgrown => exact q.elim
end
abbrev PostS := Exit → Env → List Deferred → List HP → FrameMode → Prop
section
variable (P : Program) (N : Nat)
def JS (c : Code) (E : Env) (D : List Deferred) (L : List HP) (u : FrameMode) (Q : PostS) : Prop :=
  ∀ (F : HP) (a : Act) (w : World) (c0 : Frame) (cs : List Frame),c0.mode = u → Rep N E D a → Sat w (F :: L) →
    c.wpSIn (FW none) 0 P (fun e a' cs' w' => ∃ E' D' L' u',Q e E' D' L' u' ∧ cs' = { c0 with mode := u' } :: cs ∧ Rep N E' D' a' ∧ Sat w' (F :: L')) a (c0 :: cs) w
end
def recM : FrameMode → Value × FrameMode
  | .panicking ({ v,recovered := false,goexit := false } :: older) => (v,.panicking ({ v,recovered := true } :: older))
  | u => (.nilIface,u)
section
variable {P : Program} {N : Nat} {E : Env} {D : List Deferred} {L : List HP} {u : FrameMode} {Q : PostS}
theorem JS_of_J {c : Code} (h : J P N none c E D L fun e E D L => Q e E D L u) : JS P N c E D L u Q := by
  intro F a w c0 cs hu hr hs
  refine wpSIn_of_wpIn rfl (wpIn_mono (h F a w hr hs) ?_)
  rintro e a' w' ⟨E',D',L',q,r,s⟩
  subst hu
  exact ⟨E',D',L',c0.mode,q,rfl,r,s⟩
def thnS (K : Env → List Deferred → List HP → FrameMode → Prop) (Q : PostS) : PostS
  | .normal,E,D,L,u => K E D L u
  | e,E,D,L,u => Q e E D L u
theorem JS_seq {x y : Code} (h : JS P N x E D L u (thnS (fun E D L u => JS P N y E D L u Q) Q)) : JS P N (.seq x y) E D L u Q := by
  intro F a w c0 cs hu hr hs
  refine wpSIn_seq ?_
  intro b k hb hro hF hroom
  obtain ⟨e,a',cs',w',hl,⟨E',D',L',u',q,rfl,r,s⟩,harr⟩ := h F a w c0 cs hu hr hs b k hb hro hF hroom
  refine ⟨e,a',_,w',hl,?_,harr⟩
  cases e with
  | normal => exact q F a' w' { c0 with mode := u' } cs rfl r s
  | exit id => exact ⟨E',D',L',u',q,rfl,r,s⟩
  | goto l => exact ⟨E',D',L',u',q,rfl,r,s⟩
  | ret => exact ⟨E',D',L',u',q,rfl,r,s⟩
  | panic ch => exact ⟨E',D',L',u',q,rfl,r,s⟩
  | outgrown => exact ⟨E',D',L',u',q,rfl,r,s⟩
theorem recoverD_mode (c0 : Frame) (cs : List Frame) : recoverD (c0 :: cs) = none ∧ recM c0.mode = (.nilIface,c0.mode) ∨ recoverD (c0 :: cs) = some ((recM c0.mode).1,{ c0 with mode := (recM c0.mode).2 } :: cs) := by
  cases hm : c0.mode with
  | run => left;simp [recoverD,recM,hm]
  | returning => left;simp [recoverD,recM,hm]
  | panicking l =>
    cases l with
    | nil => left;simp [recoverD,recM,hm]
    | cons p older =>
      obtain ⟨v,rec,gx⟩ := p
      cases rec with
      | true => left;simp [recoverD,recM,hm]
      | false =>
        cases gx with
        | true => left;simp [recoverD,recM,hm]
        | false => right;simp [recoverD,recM,hm]
theorem JS_recover {id d1 d2 : Nat} {ts : Array TypeId} {t1 t2 : TypeId} {p1 p2 : String} {af1 af2 : Array Edge} (h1 : Nat.blt d1 N = true) (h2 : Nat.blt d2 N = true)
    (h : Q .normal (put (put E (some d1) (recM u).1) (some d2) (recM u).1) D L (recM u).2) :
    JS P N (.region id #[⟨some d1,.call ⟨.builtin .recover,#[],ts⟩,t1,p1,af1,none⟩,⟨some d2,.assign (.tmp d1),t2,p2,af2,none⟩] false) E D L u Q := by
  intro F a w c0 cs hu hr hs
  refine wpSIn_region ?_
  have e1 : (execOp a.eval ⟨some d1,.call ⟨.builtin .recover,#[],ts⟩,t1,p1,af1,none⟩).run P w = .ok .recover w := by simp [execOp,resolve,invoke,builtin]
  have r1 : Rep N (put E (some d1) (recM u).1) D (a.put (some d1) (recM u).1) := hr.put (d := some d1) h1 _
  have e2 : (execOp (a.put (some d1) (recM u).1).eval ⟨some d2,.assign (.tmp d1),t2,p2,af2,none⟩).run P w = .ok (.value (recM u).1) w := by
    have := r1.eval (x := .tmp d1) (v := (recM u).1) (by simp [ev,put,get_cons])
    simp [execOp,this]
  have r2 : Rep N (put (put E (some d1) (recM u).1) (some d2) (recM u).1) D ((a.put (some d1) (recM u).1).put (some d2) (recM u).1) := r1.put (d := some d2) h2 _
  have fin : ∀ cs',cs' = { c0 with mode := (recM u).2 } :: cs → wpOpsSIn (FW none) 0 P #[⟨some d1,.call ⟨.builtin .recover,#[],ts⟩,t1,p1,af1,none⟩,⟨some d2,.assign (.tmp d1),t2,p2,af2,none⟩] (fun e a' cs' w' => ∃ E' D' L' u',Q e E' D' L' u' ∧ cs' = { c0 with mode := u' } :: cs ∧ Rep N E' D' a' ∧ Sat w' (F :: L')) [1] (a.put (some d1) (recM u).1) cs' w := by
    intro cs' hcs
    simp only [wpOpsSIn,List.getElem?_toArray,List.getElem?_cons_succ,List.getElem?_cons_zero,Region.wanted,if_true,e2]
    exact ⟨fun _ _ => trivial,_,_,_,_,h,hcs,r2,hs⟩
  show wpOpsSIn _ _ _ _ _ [0,1] _ _ _
  rw [wpOpsSIn]
  simp only [List.getElem?_toArray,List.getElem?_cons_zero,Region.wanted,if_true,e1]
  refine ⟨fun _ _ => trivial,?_⟩
  rcases recoverD_mode c0 cs with ⟨h3,h4⟩ | h3
  · rw [h3]
    have h5 : (recM u) = (.nilIface,u) := by rw [← hu];exact h4
    simp only
    have := fin (c0 :: cs) (by rw [h5,← hu])
    rw [h5] at this
    exact this
  · rw [h3]
    simp only
    rw [hu]
    exact fin _ rfl
def bodyQS (P : Program) (N : Nat) (fn : Func) (R : Ending → FrameMode → List HP → Prop) : PostS
  | .normal,E,D,L,u | .ret,E,D,L,u => D = [] ∧ ∃ v,Res P N fn E L v ∧ R (.returned v) u L
  | .panic ch,_,D,L,u => D = [] ∧ R (.panicked ch) u L
  | _,_,_,_,_ => False
theorem fn_bodyS {f : FuncId} {fn : Func} {c : Code} {vs : List Value} {R : Ending → FrameMode → List HP → Prop} (hf : P.funcs[f]? = some fn) (hb : fn.body = some c) (hn : fn.ntmps = N) (hN : vs.length ≤ N)
    (h : JS P N c (argEnv 0 vs) [] L u (bodyQS P N fn R)) : CtD P f vs.toArray u L R := by
  intro F w hs
  refine callsDIn_of_wpSIn hf hb trivial fun c0 cs hu => ?_
  have h1 := h F _ w c0 cs hu (rep_args vs hN) hs
  rw [hn]
  intro b k hb hro hF hroom
  obtain ⟨e,a',cs',w',hl,⟨E',D',L',u',q,rfl,r,s⟩,harr⟩ := h1 b k hb hro hF hroom
  refine ⟨e,a',_,w',hl,?_,harr⟩
  cases e with
  | normal => obtain ⟨hD,v,hv,hR⟩ := q;exact ⟨r.2.1.trans hD,u',rfl,v,hv F a' w' D' r s,by simp,L',hR,s⟩
  | ret => obtain ⟨hD,v,hv,hR⟩ := q;exact ⟨r.2.1.trans hD,u',rfl,v,hv F a' w' D' r s,by simp,L',hR,s⟩
  | panic ch => obtain ⟨hD,hR⟩ := q;exact ⟨r.2.1.trans hD,u',rfl,by simp,L',hR,s⟩
  | exit id => exact q.elim
  | goto l => exact q.elim
  | outgrown => exact q.elim
end
end Go.Sp

/- Nil checks,pointers and interfaces compared,type assertions that hold;texts and rows of bytes. -/
namespace Go.Sp
open Go.RowKit
def noP (Q : uF) : uF
  | .panic _,_,_,_ => False
  | e,E,D,L => Q e E D L
instance calm_noP (Q : uF) : CalmQ (noP Q) := ⟨fun _ _ _ _ h => h⟩
def by8 (bs : List UInt8) : List Value := bs.map fun b => .int .u8 ((b.toNat : Nat) : Int)
abbrev str (bs : List UInt8) : Value := .string ⟨bs.toArray⟩
theorem length_by8 (bs : List UInt8) : (by8 bs).length = bs.length := by simp [by8]
theorem by8_get {bs : List UInt8} {i : Nat} {b : UInt8} (h : bs[i]? = some b) : (by8 bs)[i]? = some (.int .u8 ((b.toNat : Nat) : Int)) := by simp [by8,h]
section
variable {P : Program} {N : Nat} {rd : Option Nat} {E : Env} {D : List Deferred} {L : List HP} {Q : uF} {next : Env → List Deferred → List HP → Prop}
variable {d : Option Nat} {ty : TypeId} {pos : String} {after : Array Edge} {g : Option (Nat × Bool)}
theorem J_calm {c : Code} (h : J P N rd c E D L (noP Q)) : J P N rd c E D L Q := J_mono h fun e _ _ _ q => by cases e <;> first|exact q|exact q.elim
theorem JO_q {o : Oper} {v : Value} (hnd : ∀ c,o.op ≠ .defer c) (hq : JQ P N o E D L v) (hd : dok N o.dst = true) (h : next (put E o.dst v) D L) : JO P N rd o E D L next Q :=
  JO_value hnd hd fun F a w hr hs => ⟨v,w,L,hq F a hr w hs,hs,h⟩
theorem JOq {o : Oper} {v : Value} (hq : JQ P N o E D L v) (hd : dok N o.dst = true) (h : next (put E o.dst v) D L) (hnd : ∀ c,o.op ≠ .defer c := by simp) : JO P N rd o E D L next Q :=
  JO_q hnd hq hd h
theorem yQ {x : Operand} {p : Addr} (hx : ev E x = some (.pointer (some p))) : JQ P N ⟨d,.nilCheck x,ty,pos,after,g⟩ E D L (.pointer (some p)) := fun F a hr w hs => by simp [execOp,hr.eval hx]
theorem run_eqP {t e : TypeId} [TU P t (.pointer e)] (p : Option Addr) (w : World) : (Op.equal t (.pointer p) (.pointer none)).run P w = .ok p.isNone w := by
  unfold Op.equal
  rw [show Op.maxDepth = 9999 + 1 from rfl]
  unfold Op.equalIn
  cases p <;> simp [yM (TU.h (P := P) (t := t))]
theorem JQ_eqP {x : Operand} {t e u : TypeId} [TU P t (.pointer e)] {p : Option Addr} (hx : ev E x = some (.pointer p)) : JQ P N ⟨d,.binOp .eql t x (.const (.pointer none)) u,ty,pos,after,g⟩ E D L (.bool p.isNone) := fun F a hr w hs => by
  have h3 : a.eval (.const (.pointer none)) = .pointer none := rfl
  simp [execOp,hr.eval hx,h3,eqGuard,binOp,run_eqP]
theorem JQ_neP {x : Operand} {t e u : TypeId} [TU P t (.pointer e)] {p : Option Addr} (hx : ev E x = some (.pointer p)) : JQ P N ⟨d,.binOp .neq t x (.const (.pointer none)) u,ty,pos,after,g⟩ E D L (.bool p.isSome) := fun F a hr w hs => by
  have h3 : a.eval (.const (.pointer none)) = .pointer none := rfl
  cases p <;> simp [execOp,hr.eval hx,h3,eqGuard,binOp,run_eqP]
def isNilI : Value → Bool | .nilIface => true | _ => false
theorem run_eqI {t : TypeId} {ms : Array (String × TypeId)} [TU P t (.interface ms)] (v : Value) (hv : v = .nilIface ∨ ∃ u x,v = .iface u x) (w : World) : (Op.equal t v .nilIface).run P w = .ok (isNilI v) w := by
  unfold Op.equal
  rw [show Op.maxDepth = 9999 + 1 from rfl]
  unfold Op.equalIn
  rcases hv with rfl | ⟨u,x,rfl⟩ <;> simp [yM (TU.h (P := P) (t := t)),isNilI]
theorem JQ_eqI0 {x : Operand} {t u : TypeId} {ms : Array (String × TypeId)} [TU P t (.interface ms)] (hx : ev E x = some .nilIface) : JQ P N ⟨d,.binOp .eql t x (.const .nilIface) u,ty,pos,after,g⟩ E D L (.bool true) := fun F a hr w hs => by
  have h3 : a.eval (.const .nilIface) = .nilIface := rfl
  simp [execOp,hr.eval hx,h3,eqGuard,binOp,run_eqI (P := P) (t := t) .nilIface (.inl rfl) w,isNilI]
theorem JQ_eqI1 {x : Operand} {t u s : TypeId} {v : Value} {ms : Array (String × TypeId)} [TU P t (.interface ms)] (hx : ev E x = some (.iface s v)) : JQ P N ⟨d,.binOp .eql t x (.const .nilIface) u,ty,pos,after,g⟩ E D L (.bool false) := fun F a hr w hs => by
  have h3 : a.eval (.const .nilIface) = .nilIface := rfl
  simp [execOp,hr.eval hx,h3,eqGuard,binOp,run_eqI (P := P) (t := t) (.iface s v) (.inr ⟨s,v,rfl⟩) w,isNilI]
theorem JQ_assertT {x : Operand} {xt t : TypeId} {v : Value} {dd : TypeDesc} [TU P t dd] (hni : ∀ ms,dd ≠ .interface ms) (hx : ev E x = some (.iface t v)) : JQ P N ⟨d,.typeAssert x xt t true,ty,pos,after,g⟩ E D L (.tuple [v,.bool true].toArray) := fun F a hr w hs => by
  have h1 := yM (TU.h (P := P) (t := t) (d := dd)) w
  cases dd <;> simp_all [execOp,Instr.typeAssert,hr.eval hx]
theorem JO_bytes {src dst e : TypeId} [TU P src .string] [TU P dst (.slice e)] [TU P e (.int .u8)] {x : Operand} {bs : List UInt8} (hx : ev E x = some (str bs)) (hn : bs.length ≤ maxLen) (hd : dok N d = true)
    (h : ∀ b cap,bs.length ≤ cap → next (put E d (.slice (some ⟨b,0,none⟩) bs.length cap)) D (Vw 1 (.slice (some ⟨b,0,none⟩) bs.length cap) bs.length (by8 bs) :: L)) : JO P N rd ⟨d,.convert src dst x,ty,pos,after,g⟩ E D L next Q :=
  JO_value (fun c => by simp) hd fun F a w hr hs => by
    have h1 := run_bytes_of_string (P := P) w src dst e ⟨bs.toArray⟩ TU.h TU.h TU.h
    have e1 : (⟨bs.toArray⟩ : ByteArray).size = bs.length := by simp [ByteArray.size]
    rw [e1] at h1
    have e2 : bytesRow ⟨bs.toArray⟩ (grownCap w bs.length 0 e) = (by8 bs ++ List.replicate (grownCap w bs.length 0 e - bs.length) (Value.int .u8 0)).toArray := by
      apply Array.ext'
      simp [bytesRow,by8,e1]
    rw [e2] at h1
    have hC : ∀ i u,(by8 bs)[i]? = some u → (by8 bs ++ List.replicate (grownCap w bs.length 0 e - bs.length) (Value.int .u8 0))[i]? = some u := fun i u hu => by
      rw [List.getElem?_append_left (List.getElem?_eq_some_iff.1 hu).1]
      exact hu
    generalize (by8 bs ++ List.replicate (grownCap w bs.length 0 e - bs.length) (Value.int .u8 0)) = C at h1 hC
    generalize hfz : (C.toArray.size,C.toArray.size + 1) = fz at h1
    have e3 : (execOp a.eval ⟨d,.convert src dst x,ty,pos,after,g⟩).run P w = .ok (.value (.slice (some ⟨w.heap.size,0,none⟩) bs.length (grownCap w bs.length 0 e))) (w.drew.alloc (.cells C.toArray e fz)) := by simp [execOp,hr.eval hx,h1]
    refine ⟨_,_,Vw 1 (.slice (some ⟨w.heap.size,0,none⟩) bs.length (grownCap w bs.length 0 e)) bs.length (by8 bs) :: L,e3,?_,h w.heap.size (grownCap w bs.length 0 e) (grownCap_ge w bs.length 0 e)⟩
    have h2 : Sat (w.drew.alloc (.cells C.toArray e fz)) (ro w.heap.size (.cells C.toArray e fz) :: F :: L) := ((hs.world (w' := w.drew) rfl).new (.cells C.toArray e fz)).freeze
    refine Sat.swap (Sat.conv h2 fun k hk => ?_)
    refine ⟨by rw [length_by8,Nat.mul_one],hn,some ⟨w.heap.size,0,none⟩,_,rfl,.inr ⟨w.heap.size,0,_,e,_,rfl,hk,fun i u hu => ?_⟩⟩
    rw [Nat.zero_add]
    exact hC i u hu
theorem JQ_sub3 {t e : TypeId} [TU P t (.slice e)] {z : Value} {n k : Nat} [TI P e z n k] {x hi mx : Operand} {p : Option Addr} {len cap j : Nat} {ik ik2 : IntKind} (hx : ev E x = some (.slice p len cap)) (hh : ev E hi = some (.int ik (j : Int))) (hm : ev E mx = some (.int ik2 (j : Int))) (hj : j ≤ cap) :
    JQ P N ⟨d,.slice t x none (some hi) (some mx),ty,pos,after,g⟩ E D L (.slice p j j) := fun F a hr w hs => by
  obtain ⟨i,h1,h2,h3,h4⟩ := TI.h (P := P) (t := e) (z := z) (n := n) (b := k)
  have h5 : (Instr.sliceAt t (.slice p len cap) none (some (.int ik (j : Int))) (some (.int ik2 (j : Int)))).run P w = (Instr.slice t (.slice p len cap) none (some (.int ik (j : Int))) (some (.int ik2 (j : Int)))).run P w := by simp [Instr.sliceAt,yM (TU.h (P := P) (t := t))]
  have h6 : (if j = 0 then p else p.map (·.add (0 * i.size))) = p := by
    split
    · rfl
    · cases p with
      | none => rfl
      | some a => simp [Addr.add]
  simp [execOp,hr.eval hx,hr.eval hh,hr.eval hm,h5,Instr.slice,Instr.sliceBounds,yM (TU.h (P := P) (t := t)),run_sliceBound _ ik2 (j : Int) cap _ (by omega) (by omega),run_sliceBound _ ik (j : Int) j _ (by omega) (by omega),vK h1]
  simpa using h6
theorem JQ_tail {t e : TypeId} [TU P t (.slice e)] {z : Value} {n k : Nat} [TI P e z n k] {x lo : Operand} {p : Option Addr} {len cap j : Nat} {ik : IntKind} (hx : ev E x = some (.slice p len cap)) (hh : ev E lo = some (.int ik (j : Int))) (hj : j ≤ len) (_ : len ≤ cap) :
    JQ P N ⟨d,.slice t x (some lo) none none,ty,pos,after,g⟩ E D L (.slice (if cap = j then p else p.map (·.add (j * n))) (len - j) (cap - j)) := fun F a hr w hs => by
  obtain ⟨i,h1,h2,h3,h4⟩ := TI.h (P := P) (t := e) (z := z) (n := n) (b := k)
  have h5 : (Instr.sliceAt t (.slice p len cap) (some (.int ik (j : Int))) none none).run P w = (Instr.slice t (.slice p len cap) (some (.int ik (j : Int))) none none).run P w := by simp [Instr.sliceAt,yM (TU.h (P := P) (t := t))]
  simp [execOp,hr.eval hx,hr.eval hh,h5,Instr.slice,Instr.sliceBounds,yM (TU.h (P := P) (t := t)),run_sliceBound _ ik (j : Int) len _ (by omega) (by omega),vK h1,h3]
theorem vw_cut {sz n m cap c : Nat} {p : Option Addr} {cs : List Value} (hm : m ≤ n) (k : Part) (h : Vw sz (.slice p n cap) n cs k) : Vw sz (.slice p m c) m (cs.take (m * sz)) k := by
  obtain ⟨h1,h2,p',c',e,h3⟩ := h
  cases e
  refine ⟨by rw [List.length_take,h1];exact Nat.min_eq_left (Nat.mul_le_mul_right _ hm),by omega,p,c,rfl,?_⟩
  rcases h3 with rfl | ⟨b,o,all,e,fz,h4,h5,h6⟩
  · exact .inl (by omega)
  · refine .inr ⟨b,o,all,e,fz,h4,h5,fun i u hu => h6 i u ?_⟩
    rw [List.getElem?_take] at hu
    split at hu
    · exact hu
    · cases hu
theorem vw_drop {sz n j cap c : Nat} {p : Option Addr} {cs : List Value} (hj : j ≤ n) (hc : n ≤ cap) (k : Part) (h : Vw sz (.slice p n cap) n cs k) : Vw sz (.slice (if cap = j then p else p.map (·.add (j * sz))) (n - j) c) (n - j) (cs.drop (j * sz)) k := by
  obtain ⟨h1,h2,p',c',e,h3⟩ := h
  cases e
  refine ⟨by rw [List.length_drop,h1,Nat.sub_mul],by omega,_,c,rfl,?_⟩
  by_cases hcj : cap = j
  · exact .inl (by omega)
  rcases h3 with rfl | ⟨b,o,all,e,fz,h4,h5,h6⟩
  · exact .inl (by omega)
  · subst h4
    rw [if_neg hcj]
    refine .inr ⟨b,o + j * sz,all,e,fz,by simp [addr_add],h5,fun i u hu => ?_⟩
    rw [List.getElem?_drop] at hu
    have := h6 _ _ hu
    rw [← this]
    congr 1
    omega
theorem by8_take (bs : List UInt8) (m : Nat) : (by8 bs).take (m * 1) = by8 (bs.take m) := by rw [Nat.mul_one];simp [by8,List.map_take]
theorem by8_drop (bs : List UInt8) (m : Nat) : (by8 bs).drop (m * 1) = by8 (bs.drop m) := by rw [Nat.mul_one];simp [by8,List.map_drop]
end
end Go.Sp

/- Layer 1: octets: where a reader stands,what ends what is asked,and what makes an error of it. -/
namespace Go.Proofs.YtickblndgihoeaaGreatDoor
open Go Go.Sp
instance u20 : TU Tryz.prog 20 (.interface #[]) := ⟨by kernel_rfl⟩
def ifaceMs (P : Program) (t : TypeId) : Array (String × TypeId) := match P.underlying t with | some (.interface ms) => ms | _ => #[]
instance u43 : TU Tryz.prog 43 (.interface (ifaceMs Tryz.prog 43)) := ⟨by kernel_rfl⟩
instance mixed : Mixed Tryz.prog := ⟨by kernel_rfl⟩
abbrev Rd (b : Nat) (v : Value) (pl : Int) : HP := pt b (.cells #[v,.int .i64 pl] 111 (0,0))
abbrev Ft (b : Nat) (code at_ : Int) : HP := pt b (.cells #[.int .i64 code,.int .i64 at_] 87 (0,0))
abbrev ptr (b : Nat) : Value := .pointer (some ⟨b,0,none⟩)
abbrev xH (q : Nat) : Value := .iface 150 (ptr q)
attribute [local irreducible] J JL JO Ct JG JQ JS CtD
theorem place_c (b : Nat) (v : Value) (pl : Int) : Ct Tryz.prog 98 #[ptr b] [Rd b v pl] (wF (.int .i64 pl) [Rd b v pl]) := by
  refine yE (vs := [_]) Tryz.func98 rfl Tryz.ntmps98 (by simp) ?_
  repeat (first|(first|refine zB ?_|refine zE ?_|refine zG ?_|refine zP ?_|refine zJ rfl ?_|refine zV ?_)|(first|((first|refine zA rfl ?_);first|refine JOq (JQ_eqP rfl) rfl ?_|refine JOq (yQ rfl) rfl ?_|refine zD rfl rfl ?_|refine zC rfl rfl ?_|refine zF rfl rfl ?_|refine zH rfl rfl ?_)))
  exact zY rfl rfl Ent.sel
theorem must_t (r : Value) (code : Int) : Ct Tryz.prog 107 #[r,.bool true,.int .i64 code] [] (wF (.tuple #[]) []) := by
  refine yE (vs := [_,_,_]) Tryz.func107 rfl Tryz.ntmps107 (by simp) ?_
  repeat (first|(first|refine zB ?_|refine zE ?_|refine zG ?_|refine zP ?_|refine zJ rfl ?_)|(first|((first|refine zA rfl ?_);first|refine zD rfl rfl ?_|refine xD rfl rfl ?_)))
  exact ⟨rfl,_,res_none rfl,_,.nil,rfl,rfl⟩
def Fails (code at_ : Int) (L0 : List HP) : Ending → List HP → Prop := fun e L => ∃ q : Nat,e = .panicked [{ v := xH q,recovered := false }] ∧ L = Ft q code at_ :: L0
theorem must_f (b : Nat) (v : Value) (pl code : Int) : Ct Tryz.prog 107 #[ptr b,.bool false,.int .i64 code] [Rd b v pl] (Fails code pl [Rd b v pl]) := by
  refine yE (vs := [_,_,_]) Tryz.func107 rfl Tryz.ntmps107 (by simp) ?_
  repeat (first|(first|refine zB ?_|refine zE ?_|refine zG ?_|refine zL rfl ?_)|(first|((first|refine zA rfl ?_);first|refine yG (cs := [.int .i64 code,.int .i64 pl]) rfl rfl rfl ?_|refine JO_panic rfl ?_|refine zD rfl rfl ?_|refine xD rfl rfl ?_|refine yN rfl rfl (fun r => ?_)|refine vD (by simp) rfl rfl ?_|refine zN rfl (place_c b v pl) rfl ?_)))
  exact ⟨rfl,_,Ent.sel,_,rfl,rfl⟩
theorem told_r (e : Nat) : CtD Tryz.prog 47 #[ptr e] .returning [] (fun e u L => e = .returned (.tuple #[]) ∧ u = .returning ∧ L = []) := by
  refine fn_bodyS (vs := [_]) Tryz.func47 rfl Tryz.ntmps47 (by simp) ?_
  refine JS_seq (JS_recover rfl rfl ?_)
  refine JS_of_J ?_
  repeat (first|(first|refine zB ?_|refine zE ?_|refine zG ?_|refine zL rfl ?_|refine zV ?_)|(first|((first|refine zA rfl ?_);first|refine JOq (JQ_eqI0 rfl) rfl ?_|refine zD rfl rfl ?_)))
  exact ⟨rfl,_,res_none rfl,rfl,rfl,rfl⟩
theorem told_p (e q : Nat) : CtD Tryz.prog 47 #[ptr e] (.panicking [{ v := xH q,recovered := false }]) [pt e (.cells #[.nilIface] 43 (0,0))]
    (fun en u L => en = .returned (.tuple #[]) ∧ settle u = .returning ∧ L = [pt e (.cells #[xH q] 43 (0,0))]) := by
  refine fn_bodyS (vs := [_]) Tryz.func47 rfl Tryz.ntmps47 (by simp) ?_
  refine JS_seq (JS_recover rfl rfl ?_)
  refine JS_of_J ?_
  repeat (first|(first|refine zB ?_|refine zE ?_|refine zG ?_|refine zP ?_|refine zJ rfl ?_)|(first|((first|refine zA rfl ?_);first|refine JOq (JQ_eqI1 rfl) rfl ?_|refine JOq (JQ_assertT (by simp) rfl) rfl ?_|refine JOq (yQ rfl) rfl ?_|refine zD rfl rfl ?_|refine zC rfl rfl ?_|refine xD rfl rfl ?_|refine zT rfl rfl rfl ?_|refine vD (by simp) rfl rfl ?_|refine zW rfl rfl (by first | rfl | assumption) rfl ?_)))
  exact ⟨rfl,_,res_none rfl,rfl,rfl,rfl⟩
end Go.Proofs.YtickblndgihoeaaGreatDoor

/- Layer 1: octets: a reader of the next n bytes. -/
namespace Go.Proofs.YtickblndgihoeaaGreatDoor
open Go Go.Sp
section
variable {N : Nat} {rd : Option Nat} {E : Env} {D : List Deferred} {L : List HP} {Q : uF} {next : Env → List Deferred → List HP → Prop}
variable {d : Option Nat} {ty : TypeId} {pos : String} {after : Array Edge} {g : Option (Nat × Bool)}
theorem JO_callF {code at_ : Int} {L0 K M L1 : List HP} {f : FuncId} [hf : CF Tryz.prog f] {args : Array Operand} {ts : Array TypeId} {vs : List Value} (hx : evs E args.toList = some vs)
    (hc : Ct Tryz.prog f vs.toArray K (Fails code at_ L0)) [hs : Sel K L M] [ha : AppH L0 M L1] (hd : dok N d = true) (h : ∀ q,Q (.panic [{ v := xH q,recovered := false }]) E D (Ft q code at_ :: L1)) : JO Tryz.prog N rd ⟨d,.call ⟨.value (.func f),args,ts⟩,ty,pos,after,g⟩ E D L next Q :=
  JO_call hx hc.use hd (fun _ _ ⟨_,⟨_,he,_⟩,_⟩ => by cases he) (fun _ _ ⟨_,⟨q,he,hL⟩,hL'⟩ => by cases he;rw [hL',hL,List.cons_append,ha.h];exact h q)
end
attribute [local irreducible] J JL JO Ct JG JQ JS CtD
theorem must_d (r : Value) (code : Int) (p : Prop) [Decidable p] (h : p) : Ct Tryz.prog 107 #[r,.bool (decide p),.int .i64 code] [] (wF (.tuple #[]) []) := by
  rw [decide_eq_true h]
  exact must_t r code
theorem must_fd (b : Nat) (v : Value) (pl code : Int) (p : Prop) [Decidable p] (h : ¬ p) : Ct Tryz.prog 107 #[ptr b,.bool (decide p),.int .i64 code] [Rd b v pl] (Fails code pl [Rd b v pl]) := by
  rw [decide_eq_false h]
  exact must_f b v pl code
theorem cut_neg (b : Nat) (v : Value) (pl n : Int) (h : n < 0) : Ct Tryz.prog 48 #[ptr b,.int .i64 n] [Rd b v pl] (Fails 2 pl [Rd b v pl]) := by
  refine yE (vs := [_,_]) Tryz.func48 rfl Tryz.ntmps48 (by simp) ?_
  repeat (first|(first|refine zB ?_|refine zE ?_|refine zG ?_)|(first|((first|refine zA rfl ?_);first|refine JOq (JQ_neP rfl) rfl ?_|refine JO_callF rfl (must_fd b v pl 2 (0 ≤ n) (by omega)) rfl (fun q => ?_)|refine zD rfl rfl ?_|refine zC rfl rfl ?_|refine JO_geq rfl rfl rfl ?_|refine zR rfl (must_t (ptr b) 1) rfl ?_)))
  exact ⟨rfl,_,Ent.sel,_,rfl,rfl⟩
theorem cut_short (b : Nat) (p : Option Addr) (len cap : Nat) (pl n : Int) (h : (len : Int) < n) : Ct Tryz.prog 48 #[ptr b,.int .i64 n] [Rd b (.slice p len cap) pl] (Fails 3 pl [Rd b (.slice p len cap) pl]) := by
  refine yE (vs := [_,_]) Tryz.func48 rfl Tryz.ntmps48 (by simp) ?_
  repeat (first|(first|refine zB ?_|refine zE ?_|refine zG ?_)|(first|((first|refine zA rfl ?_);first|refine JOq (JQ_neP rfl) rfl ?_|refine JOq (yQ rfl) rfl ?_|refine JO_callF rfl (must_fd b (.slice p len cap) pl 3 (n ≤ (len : Int)) (by omega)) rfl (fun q => ?_)|refine zD rfl rfl ?_|refine zC rfl rfl ?_|refine yF rfl rfl ?_|refine zF rfl rfl ?_|refine zH rfl rfl ?_|refine JO_leq rfl rfl rfl ?_|refine JO_geq rfl rfl rfl ?_|refine zR rfl (must_t (ptr b) 1) rfl ?_|refine zR rfl (must_d (ptr b) 2 (0 ≤ n) (by omega)) rfl ?_)))
  exact ⟨rfl,_,Ent.sel,_,rfl,rfl⟩
end Go.Proofs.YtickblndgihoeaaGreatDoor

/- Drawn regions that read,and then store: what is read stays until the m-th operation (the first store) has come up. -/
namespace Go.Sp
open Go.RowKit
section
variable {P : Program} {ops : Array Oper} {Q : Exit → Act → World → Prop} {md : Region.Mode} {T U : World → Prop} {m : Nat}
def wpAnyM (P : Program) (md : Region.Mode) (ops : Array Oper) (Q : Exit → Act → World → Prop) (m : Nat) (T : World → Prop) : Nat → Array Bool → Act → World → Prop
  | 0,l,a,w => Region.ready md ops l = [] ∧ Q .normal a w
  | fuel + 1,l,a,w => (Region.ready md ops l = [] → Q .normal a w) ∧
    ∀ i ∈ Region.ready md ops l,wpOp P ops Q i (fun a' w' => ((l.setIfInBounds i true).getD m true = false → T w') ∧ wpAnyM P md ops Q m T fuel (l.setIfInBounds i true) a' w') a w
theorem wpAny_of_M : ∀ (fuel : Nat) (l : Array Bool) (a : Act) (w : World),wpAnyM P md ops Q m T fuel l a w → wpAny P md ops Q fuel l a w
  | 0,_,_,_,h => h
  | fuel + 1,_,_,_,h => ⟨h.1,fun i hi => wpOp_mono (fun a' w' h' => wpAny_of_M fuel _ a' w' h'.2) (h.2 i hi)⟩
def Good (md : Region.Mode) (ops : Array Oper) (m i : Nat) (T U : World → Prop) (l : Array Bool) : Prop :=
  (∀ w,U w) ∨ ((∀ w,T w → U w) ∧ l.getD m true = false ∧ ∃ om,ops[m]? = some om ∧ ∃ e ∈ om.after,Region.binds md e = true ∧ e.on = i)
theorem unlisted {i : Nat} {l : Array Bool} (h0 : l.getD i true = false) : l.getD i false = false := by
  rcases Nat.lt_or_ge i l.size with h' | h'
  · simp [h'] at h0 ⊢;exact h0
  · simp [Array.getElem?_eq_none h'] at h0
theorem wpAnyM_first {i : Nat} {oi : Oper} {v : Value} (hi : ops[i]? = some oi) (hsel : ∀ (j : Nat) (o : Oper) cs b,ops[j]? = some o → o.op ≠ .select cs b) (hmi : m ≠ i)
    (hQ : ∀ c a w,Q (.panic c) (a.put oi.dst v) w → Q (.panic c) a w) :
    ∀ (fuel : Nat) (l : Array Bool) (a : Act) (w : World),
      (∀ j oj,ops[j]? = some oj → j ≠ i → l.getD j true = false → (∀ e ∈ oj.after,Region.binds md e = true → e.on ≠ i) → oi.apart ops oj = true) →
      i ∈ Region.ready md ops l → Good md ops m i T U l → YieldsIf P ops U oi v a → U w → (l.getD m true = false → T w) →
      wpAnyM P md ops Q m T fuel (l.setIfInBounds i true) (a.put oi.dst v) w → wpAnyM P md ops Q m T (fuel + 1) l a w := by
  intro fuel
  induction fuel with
  | zero =>
    intro l a w _ hr _ hy hU hT H
    refine ⟨fun h => (by rw [h] at hr;cases hr),fun j hj => ?_⟩
    by_cases hji : j = i
    · subst hji
      exact hy.wpOp hi hU ⟨fun hf => hT (by rw [getD_set_ne true (Ne.symm hmi)] at hf;exact hf),H⟩
    · have := ready_mono hj hji
      rw [H.1] at this
      cases this
  | succ fuel ih =>
    intro l a w hfree hr hgood hy hU hT H
    refine ⟨fun h => (by rw [h] at hr;cases hr),fun j hj => ?_⟩
    by_cases hji : j = i
    · subst hji
      exact hy.wpOp hi hU ⟨fun hf => hT (by rw [getD_set_ne true (Ne.symm hmi)] at hf;exact hf),H⟩
    · have h1 := H.2 j (ready_mono hj hji)
      obtain ⟨hjun,oj,hoj,hall⟩ := mem_ready.1 hj
      have hnot : ∀ e ∈ oj.after,Region.binds md e = true → e.on ≠ i := fun e he hb heq => by
        have h1 := hall e he hb
        rw [heq,unlisted (mem_ready.1 hr).1] at h1
        cases h1
      have h2 := wpOp_putIf hoj (hfree j oj hoj hji hjun hnot) (fun cs b => hsel i oi cs b hi) (fun cs b => hsel j oj cs b hoj) hQ hy h1
      have hfree' : ∀ k ok,ops[k]? = some ok → k ≠ i → (l.setIfInBounds j true).getD k true = false →
          (∀ e ∈ ok.after,Region.binds md e = true → e.on ≠ i) → oi.apart ops ok = true := fun k ok hk hki hun hno => by
        refine hfree k ok hk hki ?_ hno
        by_cases hjk : j = k
        · subst hjk;exact hjun
        · rw [getD_set_ne true hjk] at hun;exact hun
      have hmflag : ((l.setIfInBounds i true).setIfInBounds j true).getD m true = (l.setIfInBounds j true).getD m true := by
        rw [Array.setIfInBounds_comm _ _ (Ne.symm hji),getD_set_ne true (Ne.symm hmi)]
      have hgood' : Good md ops m i T U (l.setIfInBounds j true) ∧ ∀ w',((l.setIfInBounds j true).getD m true = false → T w') → U w' := by
        rcases hgood with hg | ⟨hg1,hg2,om,hg3,hg4⟩
        · exact ⟨.inl hg,fun w' _ => hg w'⟩
        · have hjm : j ≠ m := by
            intro h
            subst h
            rw [hoj] at hg3
            cases hg3
            obtain ⟨e,he,hb,hon⟩ := hg4
            exact hnot e he hb hon
          have hf : (l.setIfInBounds j true).getD m true = false := by rw [getD_set_ne true hjm];exact hg2
          exact ⟨.inr ⟨hg1,hf,om,hg3,hg4⟩,fun w' h => hg1 w' (h hf)⟩
      refine wpOp_mono (fun a' w' h3 => ?_) h2
      have hT' : (l.setIfInBounds j true).getD m true = false → T w' := fun hf => h3.2.1 (by rw [hmflag];exact hf)
      refine ⟨hT',ih (l.setIfInBounds j true) a' w' hfree' (ready_mono hr (Ne.symm hji)) hgood'.1 h3.1 (hgood'.2 w' hT') hT' ?_⟩
      rw [Array.setIfInBounds_comm _ _ hji]
      exact h3.2.2
end
section
variable {P : Program} {N : Nat} {E : Env} {D : List Deferred} {L L0 : List HP} {Q : uF} {m : Nat}
variable (P N) in
def JM (ops : Array Oper) (m : Nat) (fuel : Nat) (ls : List Bool) (E : Env) (D : List Deferred) (L L0 : List HP) (Q : uF) : Prop :=
  ∀ (F : HP) (a : Act) (w : World),Rep N E D a → Sat w (F :: L) → (ls.getD m true = false → Ent L L0) → wpAnyM P .any ops (lift N F Q) m (fun w => Sat w (F :: L0)) fuel ls.toArray a w
variable (P N) in
def JQ0 (o : Oper) (E : Env) (D : List Deferred) (v : Value) : Prop := ∀ a,Rep N E D a → ∀ w,(execOp a.eval o).run P w = .ok (.value v) w
theorem tM [Mixed P] (m : Nat) (L0 : List HP) {id : Nat} {ops : Array Oper} (hl : Ent L L0) (h : JM P N ops m (cnt ops.toList) (flags ops.toList) E D L L0 Q) : J P N none (.region id ops true) E D L Q := fun F a w hr hs => by
  refine (wpIn_wide (n := 0)).2 (wp_region_any Mixed.h (wpAny_of_M (m := m) (T := fun w => Sat w (F :: L0)) _ _ _ _ ?_))
  have := h F a { w with drawn := w.drawn + 1 } hr (hs.world rfl) (fun _ => hl)
  rw [flags_eq,cnt_eq,List.toArray_replicate,Array.length_toList] at this
  exact this
theorem getD_toArray (ls : List Bool) (m : Nat) : ls.toArray.getD m true = ls.getD m true := by simp
theorem JM_n [hc : CalmQ Q] {ops : Array Oper} {fuel : Nat} {ls : List Bool} {i : Nat} {o : Oper} {v : Value} (hn : findQ ops ls (idxs ops.toList 0) = some i) (ho : ops.toList[i]? = some o) (hg : o.guard = none) (hs : Region.noSelect ops = true) (hf : Region.free .any ops ls.toArray i = true)
    (hmi : Nat.beq m i = false) (hm : (match ops.toList[m]? with | some om => depB om i | none => false) = true) (hu : ls.getD m true = false) (hd : dok N o.dst = true) (hl : Ent L L0) (hq : JQ P N o E D L0 v) (h : JM P N ops m fuel (ls.set i true) (put E o.dst v) D L L0 Q) : JM P N ops m (fuel + 1) ls E D L L0 Q := by
  intro F a w hrep hsat _
  have ho' := ho
  rw [Array.getElem?_toList] at ho
  have hmi' : m ≠ i := fun e => by rw [e] at hmi;simp at hmi
  have hready : i ∈ Region.ready .any ops ls.toArray := by simpa using findQ_ready hn
  refine wpAnyM_first (U := fun w => Sat w (F :: L0)) (v := v) ho (Region.noSelect_spec hs) hmi' ?_ fuel ls.toArray a w (Region.free_spec ho hf) hready ?_ (.inl ⟨by simp [Region.wanted,hg],fun w hw => hq F a hrep w hw⟩) (hl F w hsat) (fun _ => hl F w hsat) ?_
  · rintro c a' w' ⟨E',D',L',q,_⟩
    exact absurd q (hc.h c E' D' L')
  · refine .inr ⟨fun _ h => h,by rw [getD_toArray];exact hu,?_⟩
    split at hm
    · rename_i om hom
      refine ⟨om,by rw [Array.getElem?_toList] at hom;exact hom,?_⟩
      unfold depB at hm
      rw [List.any_eq_true] at hm
      obtain ⟨e,he,hb⟩ := hm
      simp only [Bool.and_eq_true] at hb
      exact ⟨e,Array.mem_toList_iff.1 he,hb.1,Nat.eq_of_beq_eq_true hb.2⟩
    · cases hm
  · have := h F (a.put o.dst v) w (hrep.put hd v) hsat (fun _ => hl)
    rw [List.setIfInBounds_toArray]
    exact this
theorem JM_0 [hc : CalmQ Q] {ops : Array Oper} {fuel : Nat} {ls : List Bool} {i : Nat} {o : Oper} {v : Value} (hn : findQ ops ls (idxs ops.toList 0) = some i) (ho : ops.toList[i]? = some o) (hg : o.guard = none) (hs : Region.noSelect ops = true) (hf : Region.free .any ops ls.toArray i = true)
    (hmi : Nat.beq m i = false) (hd : dok N o.dst = true) (hq : JQ0 P N o E D v) (h : JM P N ops m fuel (ls.set i true) (put E o.dst v) D L L0 Q) : JM P N ops m (fuel + 1) ls E D L L0 Q := by
  intro F a w hrep hsat hent
  rw [Array.getElem?_toList] at ho
  have hmi' : m ≠ i := fun e => by rw [e] at hmi;simp at hmi
  have hready : i ∈ Region.ready .any ops ls.toArray := by simpa using findQ_ready hn
  refine wpAnyM_first (U := fun _ => True) (v := v) ho (Region.noSelect_spec hs) hmi' ?_ fuel ls.toArray a w (Region.free_spec ho hf) hready (.inl fun _ => trivial) (.inl ⟨by simp [Region.wanted,hg],fun w _ => hq a hrep w⟩) trivial (fun hu => hent (by rw [getD_toArray] at hu;exact hu) F w hsat) ?_
  · rintro c a' w' ⟨E',D',L',q,_⟩
    exact absurd q (hc.h c E' D' L')
  · have := h F (a.put o.dst v) w (hrep.put hd v) hsat (fun hu => hent (by
      have h1 := getD_set_ne (listed := ls.toArray) (i := i) (j := m) true (Ne.symm hmi')
      rw [List.setIfInBounds_toArray,getD_toArray,getD_toArray] at h1
      rw [← h1]
      exact hu))
    rw [List.setIfInBounds_toArray]
    exact this
theorem yD {P : Program} (s : Sem Value) (w w' : World) (n : Next) (h : (do pure (Next.value (← s)) : Sem Next).run P w = .ok n w') : ∃ v,n = .value v := by
  rw [Sem.run_bind] at h
  cases hr : s.run P w with
  | ok u w1 => rw [hr] at h;simp only [Result.andThen_ok,Sem.run_pure,Result.ok.injEq] at h;exact ⟨u,h.1.symm⟩
  | halt x w1 => rw [hr] at h;cases h
def Plain (P : Program) (o : Oper) : Prop := ∀ (ρ : Operand → Value) (w w' : World) (n : Next),(execOp ρ o).run P w = .ok n w' → n = .skip ∨ ∃ v,n = .value v
section
variable {d : Option Nat} {ty : TypeId} {pos : String} {after : Array Edge} {g : Option (Nat × Bool)}
theorem xC {t : TypeId} {x y : Operand} : Plain P ⟨d,.store t x y,ty,pos,after,g⟩ := fun _ _ _ _ h => .inl (run_then_skip _ _ _ _ h)
theorem plain_box {t : TypeId} {x : Operand} : Plain P ⟨d,.box t x,ty,pos,after,g⟩ := fun _ _ _ _ h => .inr (yD _ _ _ _ h)
theorem plain_row {t : TypeId} {n : Nat} {ps : Array (Nat × Operand)} : Plain P ⟨d,.buildSlice t n ps,ty,pos,after,g⟩ := fun _ _ _ _ h => .inr (yD _ _ _ _ h)
theorem JQ0_move {x : Operand} {v : Value} (hx : ev E x = some v) : JQ0 P N ⟨d,.move x,ty,pos,after,g⟩ E D v := fun a hr w => by simp [execOp,hr.eval hx]
theorem JQ0_nilCheck {x : Operand} {p : Addr} (hx : ev E x = some (.pointer (some p))) : JQ0 P N ⟨d,.nilCheck x,ty,pos,after,g⟩ E D (.pointer (some p)) := fun a hr w => by simp [execOp,hr.eval hx]
theorem JQ0_add {x y : Operand} {m n : Int} {t u : TypeId} (hx : ev E x = some (.int .i64 m)) (hy : ev E y = some (.int .i64 n)) (hb : -9223372036854775808 ≤ m + n ∧ m + n ≤ 9223372036854775807) : JQ0 P N ⟨d,.binOp .add t x y u,ty,pos,after,g⟩ E D (.int .i64 (m + n)) := fun a hr w => by
  simp [execOp,hr.eval hx,hr.eval hy,eqGuard,binOp,Op.intArith,wrap_in hb]
theorem JQ0_field {s f off ft n : Nat} [TF P s f off ft n] {x : Operand} {b o : Nat} (hx : ev E x = some (.pointer (some ⟨b,o,none⟩))) : JQ0 P N ⟨d,.fieldAddr s x f,ty,pos,after,g⟩ E D (.pointer (some ⟨b,o + off,none⟩)) := fun a hr w => by
  obtain ⟨fs,fl,h1,h2,rfl,rfl,⟨i,h3,h4⟩,h5⟩ := TF.h (P := P) (s := s) (f := f) (off := off) (ty := ft) (n := n)
  simp [execOp,Instr.fieldAt,hr.eval hx,yM h1,h2,Instr.sureAddr,fieldPlace,vK h3,h4,h5,addr_add]
theorem JQ0_field0 {s f off ft n : Nat} [TF P s f off ft n] {x : Operand} {b : Nat} (hx : ev E x = some (.pointer (some ⟨b,0,none⟩))) : JQ0 P N ⟨d,.fieldAddr s x f,ty,pos,after,g⟩ E D (.pointer (some ⟨b,off,none⟩)) := by
  have := JQ0_field (P := P) (N := N) (D := D) (d := d) (ty := ty) (pos := pos) (after := after) (g := g) (s := s) (f := f) hx
  rw [Nat.zero_add] at this
  exact this
end
theorem JM_one {ops : Array Oper} {fuel : Nat} {ls : List Bool} (i : Nat) {o : Oper} (ho : ops.toList[i]? = some o) (hg : o.guard = none) (hr : Region.ready .any ops ls.toArray = [i]) (hp : Plain P o)
    (h : JO P N none o E D L (fun E' D' L' => ((ls.set i true).getD m true = false → Ent L' L0) ∧ JM P N ops m fuel (ls.set i true) E' D' L' L0 Q) Q) : JM P N ops m (fuel + 1) ls E D L L0 Q := by
  intro F a w hrep hsat _
  rw [Array.getElem?_toList] at ho
  refine ⟨fun h0 => (by rw [hr] at h0;cases h0),fun k hk => ?_⟩
  rw [hr] at hk
  simp only [List.mem_singleton] at hk
  subst hk
  simp only [wpOp,ho,Region.wanted,hg,if_true]
  refine .inl ?_
  have h1 := (h F a w hrep hsat (fun a' w' => ((ls.toArray.setIfInBounds k true).getD m true = false → Sat w' (F :: L0)) ∧ wpAnyM P .any ops (lift N F Q) m (fun w => Sat w (F :: L0)) fuel (ls.toArray.setIfInBounds k true) a' w') (fun E' D' L' a' w' hn hr' hs' => by
    rw [List.setIfInBounds_toArray]
    exact ⟨fun hf => hn.1 (by rw [getD_toArray] at hf;exact hf) F w' hs',hn.2 F a' w' hr' hs' hn.1⟩)).2
  rw [show (FW none).round = none from rfl,Oper.semAt_none] at h1
  unfold Oper.wp
  cases hres : (execOp a.eval o).run P w with
  | ok n w' =>
    rw [hres] at h1
    rcases hp _ _ _ _ hres with rfl | ⟨v,rfl⟩
    · exact h1
    · exact h1
  | halt z w' =>
    rw [hres] at h1
    cases z <;> first|exact h1|exact h1.elim
theorem JG_one {ops : Array Oper} {fuel : Nat} {ls : List Bool} (i : Nat) {o : Oper} (ho : ops.toList[i]? = some o) (hg : o.guard = none) (hr : Region.ready .any ops ls.toArray = [i]) (hp : Plain P o)
    (h : JO P N none o E D L (fun E' D' L' => Ent L' L0 ∧ JG P N ops fuel (ls.set i true) E' D' L' L0 Q) Q) : JG P N ops (fuel + 1) ls E D L L0 Q := by
  intro F a w hrep hsat
  rw [Array.getElem?_toList] at ho
  refine wpAnyH_all hr (by simp) fun k hk => ?_
  simp only [List.mem_singleton] at hk
  subst hk
  simp only [wpOp,ho,Region.wanted,hg,if_true]
  refine .inl ?_
  have h1 := (h F a w hrep hsat (fun a' w' => Sat w' (F :: L0) ∧ wpAnyH P .any ops (lift N F Q) (fun w => Sat w (F :: L0)) fuel (ls.toArray.setIfInBounds k true) a' w') (fun E' D' L' a' w' hn hr' hs' => ⟨hn.1 F w' hs',by
    rw [List.setIfInBounds_toArray]
    exact hn.2 F a' w' hr' hs'⟩)).2
  rw [show (FW none).round = none from rfl,Oper.semAt_none] at h1
  unfold Oper.wp
  cases hres : (execOp a.eval o).run P w with
  | ok n w' =>
    rw [hres] at h1
    rcases hp _ _ _ _ hres with rfl | ⟨v,rfl⟩
    · exact h1
    · exact h1
  | halt z w' =>
    rw [hres] at h1
    cases z <;> first|exact h1|exact h1.elim
theorem JM_fin {ops : Array Oper} {fuel : Nat} {ls : List Bool} (hr : orL (rdy ops ls) (idxs ops.toList 0) = false) (h : Q .normal E D L) : JM P N ops m fuel ls E D L L0 Q := by
  have hr' : Region.ready .any ops ls.toArray = [] := by
    rw [orL_eq,← idxs_range] at hr
    rw [rdy_eq,List.filter_eq_nil_iff]
    intro i hi hr'
    rw [List.any_eq_false] at hr
    exact hr i hi hr'
  intro F a w hrep hsat _
  have h0 : lift N F Q .normal a w := ⟨E,D,L,h,hrep,hsat⟩
  cases fuel with
  | zero => exact ⟨hr',h0⟩
  | succ fuel => exact ⟨fun _ => h0,fun i hi => (by rw [hr'] at hi;cases hi)⟩
end
end Go.Sp

/- Layer 1: octets: a reader of the next n bytes,where they are there. -/
namespace Go.Proofs.YtickblndgihoeaaGreatDoor
open Go Go.Sp
attribute [local irreducible] J JL JO Ct JG JM JQ JQ0 JS CtD
abbrev tailP (p : Option Addr) (cap n : Nat) : Option Addr := if cap = n then p else p.map (·.add (n * 1))
theorem cut_ok (b : Nat) (p : Option Addr) (len cap : Nat) (pl : Int) (n : Nat) (hn : n ≤ len) (hc : len ≤ cap) (hpl : 0 ≤ pl ∧ pl + n ≤ 9223372036854775807) :
    Ct Tryz.prog 48 #[ptr b,.int .i64 (n : Int)] [Rd b (.slice p len cap) pl]
      (RetE (fun _ : Nat => True) ptr (fun q => [Rd b (.slice (tailP p cap n) (len - n) (cap - n)) (pl + n),Rd q (.slice p n n) pl])) := by
  refine yE (vs := [_,_]) Tryz.func48 rfl Tryz.ntmps48 (by simp) ?_
  repeat (first|(first|refine zB ?_|refine zE ?_|refine zG ?_)|(first|((first|refine zA rfl ?_);first|refine JOq (JQ_neP rfl) rfl ?_|refine JOq (yQ rfl) rfl ?_|refine zD rfl rfl ?_|refine zC rfl rfl ?_|refine yF rfl rfl ?_|refine zF rfl rfl ?_|refine zH rfl rfl ?_|refine JO_leq rfl rfl rfl ?_|refine JO_geq rfl rfl rfl ?_|refine zR rfl (must_t (ptr b) 1) rfl ?_|refine zR rfl (must_d (ptr b) 2 (0 ≤ (n : Int)) (by omega)) rfl ?_|refine zR rfl (must_d (ptr b) 3 ((n : Int) ≤ (len : Int)) (by omega)) rfl ?_)))
  refine J_calm ?_
  refine J_regionGS [Rd b (.slice p len cap) pl] ?_
  repeat (first|refine JG_n rfl rfl rfl (by kernel_rfl) (by kernel_rfl) rfl Ent.sel (by first|exact yQ rfl|exact JQ_sub3 rfl rfl rfl (by omega)|exact JQ_build (cs := [.slice p n n,.int .i64 pl]) rfl rfl|exact xE rfl|exact xL rfl|exact xP rfl) ?_)
  refine JG_one 12 rfl rfl (by kernel_rfl) plain_box (yN rfl rfl (fun r => ⟨Ent.sel,?_⟩))
  repeat (first|refine tA rfl ?_|refine JG_n rfl rfl rfl (by kernel_rfl) (by kernel_rfl) rfl Ent.sel (by first|exact vT rfl) ?_)
  refine zG ?_
  refine J_calm ?_
  refine tM 16 [Rd b (.slice p len cap) pl] Ent.sel ?_
  repeat (first|refine JM_n rfl rfl rfl (by kernel_rfl) (by kernel_rfl) rfl rfl rfl rfl Ent.sel (by first|exact JQ_tail rfl rfl (by omega) (by omega)|exact yQ rfl|exact xE rfl|exact xL rfl|exact xP rfl|exact JQ_add rfl rfl (by omega)) ?_|refine JM_0 rfl rfl rfl (by kernel_rfl) (by kernel_rfl) rfl rfl (by first|exact JQ0_move rfl|exact JQ0_nilCheck rfl|exact JQ0_field0 rfl|exact JQ0_add rfl rfl (by omega)) ?_)
  refine JM_one 16 rfl rfl (by kernel_rfl) xC (zW rfl rfl rfl rfl ⟨fun h => absurd h (by decide),?_⟩)
  repeat (first|refine JM_0 rfl rfl rfl (by kernel_rfl) (by kernel_rfl) rfl rfl (by first|exact JQ0_nilCheck rfl|exact JQ0_field0 rfl) ?_)
  refine JM_one 19 rfl rfl (by kernel_rfl) xC (zW rfl rfl rfl rfl ⟨fun h => absurd h (by decide),?_⟩)
  repeat (first|refine JM_fin rfl ?_)
  repeat (first|(first|refine zB ?_|refine zE ?_|refine zG ?_|refine zV ?_)|(first|((first|refine zA rfl ?_);first|refine zD rfl rfl ?_|refine zC rfl rfl ?_)))
  exact ret_one rfl rfl r trivial rfl Ent.sel
end Go.Proofs.YtickblndgihoeaaGreatDoor
