/- Contracts that leave what they read; literals as owned rows; what is known of integers in rows. -/
import Derived.Test.YtejhdhmopiahhaaDoorSp4
namespace Go.Sp
open Go.RowKit

class PersA (A : HP) : Prop where h : Pers A
instance (b : Nat) (o : Obj) : PersA (ro b o) := ⟨pers_ro b o⟩
instance (sz : Nat) (v : Value) (n : Nat) (cs : List Value) : PersA (Vw sz v n cs) := ⟨pers_vw sz v n cs⟩
instance (w : World) : PersA (Base w) := ⟨pers_base w⟩
class PersK (K : List HP) : Prop where h : ∀ A ∈ K, Pers A
instance : PersK [] := ⟨by simp⟩
instance (A : HP) (K : List HP) [h1 : PersA A] [h2 : PersK K] : PersK (A :: K) := ⟨fun B hB => by
  rcases List.mem_cons.1 hB with rfl | hB
  · exact h1.h
  · exact h2.h B hB⟩

theorem Sat.dups {w : World} {L : List HP} : ∀ {K : List HP}, (∀ A ∈ K, Pers A) → Sat w (K ++ L) → Sat w (K ++ (K ++ L)) := by
  intro K
  induction K generalizing L with
  | nil => exact fun _ h => h
  | cons A K ih =>
    intro hp h
    have h1 : Sat w (A :: A :: (K ++ L)) := Sat.dup h (hp A (by simp))
    have h2 : Sat w (K ++ (A :: A :: L)) := h1.perm (by
      have e1 : (A :: A :: (K ++ L)).Perm (A :: (K ++ A :: L)) := (List.perm_middle.symm).cons A
      exact e1.trans List.perm_middle.symm)
    have h3 := ih (fun B hB => hp B (by simp [hB])) h2
    refine h3.perm ?_
    have e2 : (K ++ (K ++ A :: A :: L)).Perm (A :: A :: (K ++ (K ++ L))) := by
      have a1 : (K ++ A :: A :: L).Perm (A :: A :: (K ++ L)) := List.perm_middle.trans (List.perm_middle.cons A)
      have a2 : (K ++ (K ++ A :: A :: L)).Perm (K ++ (A :: A :: (K ++ L))) := a1.append_left K
      exact a2.trans (List.perm_middle.trans (List.perm_middle.cons A))
    refine e2.trans ?_
    show (A :: A :: (K ++ (K ++ L))).Perm (A :: (K ++ (A :: (K ++ L))))
    exact (List.perm_middle.symm).cons A

theorem Ct.useP {P : Program} {f : FuncId} {args : Array Value} {L K M : List HP} {R : Ending → List HP → Prop} (h : Ct P f args K R) [hs : Sel K L M] [hp : PersK K] : Ct P f args L fun e L'' => ∃ L', R e L' ∧ L'' = L' ++ L := by
  have h1 := h.frame L
  refine Ct.heap (fun F w s => ?_) h1
  have s1 : Sat w (K ++ (F :: M)) := s.perm ((hs.h.cons F).trans List.perm_middle.symm)
  have s2 := Sat.dups hp.h s1
  refine s2.perm ?_
  have e1 : (K ++ (K ++ F :: M)).Perm (F :: (K ++ (K ++ M))) := (List.perm_middle.append_left K).trans List.perm_middle
  exact e1.trans (((hs.h.symm.append_left K)).cons F)

theorem Sat.own_lit {w : World} {e sz b n : Nat} {cs : List Value} {L : List HP} (h : Sat w (pt b (.cells cs.toArray e (0, 0)) :: L)) (h0 : cs.length = n * sz) (h2 : n ≤ maxLen) :
    Sat w (OwnS e sz (.slice (some ⟨b, 0, none⟩) n n) n cs :: L) := Sat.own_block (sp := []) (by simpa using h) h0 (Nat.le_refl _) h2 (by simpa using h0)

/-- What follows from what is held. -/
def Ent (L L' : List HP) : Prop := ∀ (F : HP) (w : World), Sat w (F :: L) → Sat w (F :: L')
theorem Ent.refl (L : List HP) : Ent L L := fun _ _ h => h
theorem Ent.trans {L M K : List HP} (h : Ent L M) (k : Ent M K) : Ent L K := fun F w s => k F w (h F w s)
theorem Ent.sel {L K M : List HP} [h : Sel K L M] : Ent L K := fun F w s => (s.perm (h.h.cons F)).sub ((List.sublist_append_left K M).cons_cons F)
theorem Ent.head {A B : HP} {L : List HP} (hab : ∀ (w : World) (M : List HP), Sat w (A :: M) → Sat w (B :: M)) : Ent (A :: L) (B :: L) := fun _ w hs => (hab w _ hs.swap).swap
theorem Ent.cons {A : HP} {L : List HP} (hab : ∀ (w : World) (M : List HP), Sat w M → Sat w (A :: M)) : Ent L (A :: L) := fun _ w hs => (hab w _ hs).swap
theorem Ent.keep {A : HP} {L M : List HP} (h : Ent L M) : Ent (A :: L) (A :: M) := fun F w hs => by
  have h1 : Sat w (Star [F, A] :: L) := (Sat.fold (L1 := [F, A])).1 hs
  exact (Sat.fold (L1 := [F, A])).2 (h _ w h1)

/-- A function's contract from its body; what it leaves may be turned. -/
theorem fn_ret {P : Program} {N : Nat} {L : List HP} {f : FuncId} {fn : Func} {c : Code} {vs : List Value} {R : Ending → List HP → Prop} (hf : P.funcs[f]? = some fn) (hb : fn.body = some c) (hn : fn.ntmps = N) (hN : vs.length ≤ N)
    (h : J P N none c (argEnv 0 vs) [] L (bodyQ P N fn fun e L => ∃ L', Ent L L' ∧ R e L')) : Ct P f vs.toArray L R := fun F w hs =>
  (fn_body hf hb hn hN h F w hs).mono fun _ w' ⟨hne, _, ⟨L2, he, hr⟩, s⟩ => ⟨hne, L2, hr, he F w' s⟩

/-- It returns a value, and leaves this; it panics with no value. -/
def RetE {α : Type} (φ : α → Prop) (v : α → Value) (L0 : α → List HP) : Ending → List HP → Prop := fun e L => ∃ x, φ x ∧ e = .returned (v x) ∧ L = L0 x
def RetV (v : Value) (L0 : List HP) : Ending → List HP → Prop := fun e L => e = .returned v ∧ L = L0
class AppH (K M : List HP) (L : outParam (List HP)) : Prop where h : K ++ M = L
instance (M : List HP) : AppH [] M M := ⟨rfl⟩
instance (A : HP) (K M L : List HP) [h : AppH K M L] : AppH (A :: K) M (A :: L) := ⟨by simp [h.h]⟩

section
variable {P : Program} {N : Nat} {rd : Option Nat} {E : Env} {D : List Deferred} {L : List HP} {Q : Post} {next : Env → List Deferred → List HP → Prop}
variable {d : Option Nat} {ty : TypeId} {pos : String} {after : Array Edge} {g : Option (Nat × Bool)}
theorem JO_callE {α : Type} {φ : α → Prop} {v : α → Value} {L0 : α → List HP} {K M : List HP} {L1 : α → List HP} {f : FuncId} [hf : CF P f] {args : Array Operand} {ts : Array TypeId} {vs : List Value} (hx : evs E args.toList = some vs)
    (hc : Ct P f vs.toArray K (RetE φ v L0)) [hs : Sel K L M] [ha : ∀ x, AppH (L0 x) M (L1 x)] (hd : dok N d = true) (h : ∀ x, φ x → next (put E d (v x)) D (L1 x)) : JO P N rd ⟨d, .call ⟨.value (.func f), args, ts⟩, ty, pos, after, g⟩ E D L next Q :=
  JO_call hx hc.use hd (fun _ _ ⟨_, ⟨x, hφ, he, hL⟩, hL'⟩ => by cases he; rw [hL', hL, (ha x).h]; exact h x hφ) (fun _ _ ⟨_, ⟨_, _, he, _⟩, _⟩ => by cases he)
theorem JO_callV' {v : Value} {L0 K M L1 : List HP} {f : FuncId} [hf : CF P f] {args : Array Operand} {ts : Array TypeId} {vs : List Value} (hx : evs E args.toList = some vs)
    (hc : Ct P f vs.toArray K (RetV v L0)) [hs : Sel K L M] [ha : AppH L0 M L1] (hd : dok N d = true) (h : next (put E d v) D L1) : JO P N rd ⟨d, .call ⟨.value (.func f), args, ts⟩, ty, pos, after, g⟩ E D L next Q :=
  JO_call hx hc.use hd (fun _ _ ⟨_, ⟨he, hL⟩, hL'⟩ => by cases he; rw [hL', hL, ha.h]; exact h) (fun _ _ ⟨_, ⟨he, _⟩, _⟩ => by cases he)
/-- What the contract asks stays. -/
theorem JO_callEP {α : Type} {φ : α → Prop} {v : α → Value} {L0 : α → List HP} {K M : List HP} {L1 : α → List HP} {f : FuncId} [hf : CF P f] {args : Array Operand} {ts : Array TypeId} {vs : List Value} (hx : evs E args.toList = some vs)
    (hc : Ct P f vs.toArray K (RetE φ v L0)) [hs : Sel K L M] [hp : PersK K] [ha : ∀ x, AppH (L0 x) L (L1 x)] (hd : dok N d = true) (h : ∀ x, φ x → next (put E d (v x)) D (L1 x)) : JO P N rd ⟨d, .call ⟨.value (.func f), args, ts⟩, ty, pos, after, g⟩ E D L next Q :=
  JO_call hx hc.useP hd (fun _ _ ⟨_, ⟨x, hφ, he, hL⟩, hL'⟩ => by cases he; rw [hL', hL, (ha x).h]; exact h x hφ) (fun _ _ ⟨_, ⟨_, _, he, _⟩, _⟩ => by cases he)
theorem JO_callVP {v : Value} {L0 K M L1 : List HP} {f : FuncId} [hf : CF P f] {args : Array Operand} {ts : Array TypeId} {vs : List Value} (hx : evs E args.toList = some vs)
    (hc : Ct P f vs.toArray K (RetV v L0)) [hs : Sel K L M] [hp : PersK K] [ha : AppH L0 L L1] (hd : dok N d = true) (h : next (put E d v) D L1) : JO P N rd ⟨d, .call ⟨.value (.func f), args, ts⟩, ty, pos, after, g⟩ E D L next Q :=
  JO_call hx hc.useP hd (fun _ _ ⟨_, ⟨he, hL⟩, hL'⟩ => by cases he; rw [hL', hL, ha.h]; exact h) (fun _ _ ⟨_, ⟨he, _⟩, _⟩ => by cases he)
/-- The same, of closures. -/
theorem JO_callCE {α : Type} {φ : α → Prop} {v : α → Value} {L0 : α → List HP} {K M : List HP} {L1 : α → List HP} {f : FuncId} [hf : CF P f] {x : Operand} {args : Array Operand} {ts : Array TypeId} {vs fs cs : List Value} (hfv : ev E x = some (.func (.func f) fs.toArray cs.toArray))
    (hx : evs E args.toList = some vs) (hc : Ct P f (fs ++ vs ++ cs).toArray K (RetE φ v L0)) [hs : Sel K L M] [ha : ∀ x, AppH (L0 x) M (L1 x)] (hd : dok N d = true) (h : ∀ x, φ x → next (put E d (v x)) D (L1 x)) :
    JO P N rd ⟨d, .call ⟨.value x, args, ts⟩, ty, pos, after, g⟩ E D L next Q :=
  JO_callV hfv hx hc.use hd (fun _ _ ⟨_, ⟨x, hφ, he, hL⟩, hL'⟩ => by cases he; rw [hL', hL, (ha x).h]; exact h x hφ) (fun _ _ ⟨_, ⟨_, _, he, _⟩, _⟩ => by cases he)

theorem JO_callCVP {v : Value} {L0 K M L1 : List HP} {f : FuncId} [hf : CF P f] {x : Operand} {args : Array Operand} {ts : Array TypeId} {vs fs cs : List Value} (hfv : ev E x = some (.func (.func f) fs.toArray cs.toArray))
    (hx : evs E args.toList = some vs) (hc : Ct P f (fs ++ vs ++ cs).toArray K (RetV v L0)) [hs : Sel K L M] [hp : PersK K] [ha : AppH L0 L L1] (hd : dok N d = true) (h : next (put E d v) D L1) :
    JO P N rd ⟨d, .call ⟨.value x, args, ts⟩, ty, pos, after, g⟩ E D L next Q :=
  JO_callV hfv hx hc.useP hd (fun _ _ ⟨_, ⟨he, hL⟩, hL'⟩ => by cases he; rw [hL', hL, ha.h]; exact h) (fun _ _ ⟨_, ⟨he, _⟩, _⟩ => by cases he)
theorem ret_one {α : Type} {φ : α → Prop} {v : α → Value} {L0 : α → List HP} {fn : Func} {t : Nat} {u : Value} (hr : fn.results = #[.tmp t]) (hv : Env.get E t = some u) (x : α) (hφ : φ x) (hu : u = v x) (he : Ent L (L0 x)) :
    bodyQ P N fn (fun e L => ∃ L', Ent L L' ∧ RetE φ v L0 e L') .ret E [] L := ⟨rfl, _, res_one hr hv, _, he, x, hφ, by rw [hu], rfl⟩
theorem ret_oneV {v : Value} {L0 : List HP} {fn : Func} {t : Nat} (hr : fn.results = #[.tmp t]) (hv : Env.get E t = some v) (he : Ent L L0) :
    bodyQ P N fn (fun e L => ∃ L', Ent L L' ∧ RetV v L0 e L') .ret E [] L := ⟨rfl, _, res_one hr hv, _, he, rfl, rfl⟩
theorem ret_two {α : Type} {φ : α → Prop} {v : α → Value} {L0 : α → List HP} {fn : Func} {t s : Nat} {u y : Value} (hr : fn.results = #[.tmp t, .tmp s]) (hv : Env.get E t = some u) (hy : Env.get E s = some y) (x : α) (hφ : φ x) (hu : .tuple #[u, y] = v x) (he : Ent L (L0 x)) :
    bodyQ P N fn (fun e L => ∃ L', Ent L L' ∧ RetE φ v L0 e L') .ret E [] L := ⟨rfl, _, res_two hr hv hy, _, he, x, hφ, by rw [hu], rfl⟩
theorem ret_twoV {u y : Value} {L0 : List HP} {fn : Func} {t s : Nat} (hr : fn.results = #[.tmp t, .tmp s]) (hv : Env.get E t = some u) (hy : Env.get E s = some y) (he : Ent L L0) :
    bodyQ P N fn (fun e L => ∃ L', Ent L L' ∧ RetV (.tuple #[u, y]) L0 e L') .ret E [] L := ⟨rfl, _, res_two hr hv hy, _, he, rfl, rfl⟩
theorem ret_three {α : Type} {φ : α → Prop} {v : α → Value} {L0 : α → List HP} {fn : Func} {t s r : Nat} {u y z : Value} (hr : fn.results = #[.tmp t, .tmp s, .tmp r]) (hv : Env.get E t = some u) (hy : Env.get E s = some y) (hz : Env.get E r = some z) (x : α) (hφ : φ x)
    (hu : .tuple #[u, y, z] = v x) (he : Ent L (L0 x)) : bodyQ P N fn (fun e L => ∃ L', Ent L L' ∧ RetE φ v L0 e L') .ret E [] L := ⟨rfl, _, res_three hr hv hy hz, _, he, x, hφ, by rw [hu], rfl⟩
theorem ret_noneV {L0 : List HP} {fn : Func} (hr : fn.results = #[]) (he : Ent L L0) : bodyQ P N fn (fun e L => ∃ L', Ent L L' ∧ RetV (.tuple #[]) L0 e L') .ret E [] L := ⟨rfl, _, res_none hr, _, he, rfl, rfl⟩
theorem end_noneV {L0 : List HP} {fn : Func} (hr : fn.results = #[]) (he : Ent L L0) : bodyQ P N fn (fun e L => ∃ L', Ent L L' ∧ RetV (.tuple #[]) L0 e L') .normal E [] L := ⟨rfl, _, res_none hr, _, he, rfl, rfl⟩
theorem ret_none {α : Type} {φ : α → Prop} {L0 : α → List HP} {fn : Func} (hr : fn.results = #[]) (x : α) (hφ : φ x) (he : Ent L (L0 x)) : bodyQ P N fn (fun e L => ∃ L', Ent L L' ∧ RetE φ (fun _ => .tuple #[]) L0 e L') .ret E [] L := ⟨rfl, _, res_none hr, _, he, x, hφ, rfl, rfl⟩
theorem end_none {α : Type} {φ : α → Prop} {L0 : α → List HP} {fn : Func} (hr : fn.results = #[]) (x : α) (hφ : φ x) (he : Ent L (L0 x)) : bodyQ P N fn (fun e L => ∃ L', Ent L L' ∧ RetE φ (fun _ => .tuple #[]) L0 e L') .normal E [] L := ⟨rfl, _, res_none hr, _, he, x, hφ, rfl, rfl⟩
theorem Ent.nil {L : List HP} : Ent L [] := fun _ w hs => hs.sub ((List.nil_sublist L).cons_cons _)
theorem Ent.ownNil {e sz : Nat} {L : List HP} : Ent L [OwnS e sz (.slice none 0 0) 0 []] := fun _ _ hs => (hs.sub ((List.nil_sublist L).cons_cons _)).own_nil.swap
end

/-- Numbers as cells. -/
def ints (l : List Int) : List Value := l.map (.int .i64)
@[simp] theorem length_ints (l : List Int) : (ints l).length = l.length := by simp [ints]
theorem ints_one (l : List Int) : ∀ u ∈ ints l, u.oneCell' = true := by
  intro u hu; simp [ints] at hu; obtain ⟨z, _, rfl⟩ := hu; rfl
theorem ints_append (l m : List Int) : ints (l ++ m) = ints l ++ ints m := by simp [ints]
theorem ints_get {l : List Int} {j : Nat} {z : Int} (h : l[j]? = some z) : (ints l)[j]? = some (.int .i64 z) := by simp [ints, h]

section
variable {P : Program} {N : Nat} {rd : Option Nat} {E : Env} {D : List Deferred} {L : List HP} {Q : Post}
/-- The first assertion, turned. -/
theorem JL_head {all : Array Oper} {i : Nat} {rest : List Oper} {A B : HP} (hab : ∀ (w : World) (M : List HP), Sat w (A :: M) → Sat w (B :: M)) (h : JL P N rd all i rest E D (B :: L) Q) : JL P N rd all i rest E D (A :: L) Q :=
  JL_heap (fun _ w hs => (hab w _ hs.swap).swap) h
theorem J_head {c : Code} {A B : HP} (hab : ∀ (w : World) (M : List HP), Sat w (A :: M) → Sat w (B :: M)) (h : J P N rd c E D (B :: L) Q) : J P N rd c E D (A :: L) Q :=
  J_heap (fun _ w hs => (hab w _ hs.swap).swap) h
/-- The first assertion, dropped. -/
theorem J_drop {c : Code} {A : HP} (h : J P N rd c E D L Q) : J P N rd c E D (A :: L) Q := J_heap (fun _ _ hs => hs.swap.tail) h
theorem JL_drop {all : Array Oper} {i : Nat} {rest : List Oper} {A : HP} (h : JL P N rd all i rest E D L Q) : JL P N rd all i rest E D (A :: L) Q := JL_heap (fun _ _ hs => hs.swap.tail) h
/-- Another order. -/
theorem J_perm {c : Code} {L' : List HP} (p : L.Perm L') (h : J P N rd c E D L' Q) : J P N rd c E D L Q := J_heap (fun F _ hs => hs.perm (p.cons F)) h
theorem JL_perm {all : Array Oper} {i : Nat} {rest : List Oper} {L' : List HP} (p : L.Perm L') (h : JL P N rd all i rest E D L' Q) : JL P N rd all i rest E D L Q := JL_heap (fun F _ hs => hs.perm (p.cons F)) h
/-- An assertion brought to the front. -/
theorem J_front {c : Code} (A : HP) {M : List HP} [t : Tk A L M] (h : J P N rd c E D (A :: M) Q) : J P N rd c E D L Q := J_perm t.h h
theorem JL_front {all : Array Oper} {i : Nat} {rest : List Oper} (A : HP) {M : List HP} [t : Tk A L M] (h : JL P N rd all i rest E D (A :: M) Q) : JL P N rd all i rest E D L Q := JL_perm t.h h
end
end Go.Sp
