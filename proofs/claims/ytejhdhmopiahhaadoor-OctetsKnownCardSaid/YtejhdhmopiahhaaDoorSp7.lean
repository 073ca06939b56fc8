/- Owned rows opened and frozen in the middle of code; rows of structs. -/
import Derived.Test.YtejhdhmopiahhaaDoorSp6
namespace Go.Sp
open Go.RowKit

theorem Sat.own_view {w : World} {e sz : Nat} {v : Value} {n : Nat} {cs : List Value} {L : List HP} (h : Sat w (OwnS e sz v n cs :: L)) : ∃ p cap, v = .slice p n cap ∧ Sat w (Vw sz (.slice p n cap) n cs :: L) := by
  have h1 := h.own_freeze
  obtain ⟨_, _, p, cap, rfl, _⟩ : cs.length = n * sz ∧ n ≤ maxLen ∧ ∃ p cap, v = .slice p n cap ∧ True := h1.out (fun k ⟨a, b, p, cap, c, _⟩ => ⟨a, b, p, cap, c, trivial⟩)
  exact ⟨p, cap, rfl, h1⟩

section
variable {P : Program} {N : Nat} {rd : Option Nat} {E : Env} {D : List Deferred} {L : List HP} {Q : Post}
/-- The first assertion, an owned row, is frozen. -/
theorem JL_view {all : Array Oper} {i : Nat} {rest : List Oper} {e sz : Nat} {v : Value} {n : Nat} {cs : List Value} (h : ∀ p cap, v = .slice p n cap → JL P N rd all i rest E D (Vw sz (.slice p n cap) n cs :: L) Q) : JL P N rd all i rest E D (OwnS e sz v n cs :: L) Q := by
  intro F a w hr hs
  obtain ⟨p, cap, hv, hs'⟩ := hs.swap.own_view
  exact h p cap hv F a w hr hs'.swap
theorem J_view {c : Code} {e sz : Nat} {v : Value} {n : Nat} {cs : List Value} (h : ∀ p cap, v = .slice p n cap → J P N rd c E D (Vw sz (.slice p n cap) n cs :: L) Q) : J P N rd c E D (OwnS e sz v n cs :: L) Q := by
  intro F a w hr hs
  obtain ⟨p, cap, hv, hs'⟩ := hs.swap.own_view
  exact h p cap hv F a w hr hs'.swap
/-- What the first assertion says besides. -/
theorem JL_say {all : Array Oper} {i : Nat} {rest : List Oper} {A : HP} {φ : Prop} (hA : ∀ k, A k → φ) (h : φ → JL P N rd all i rest E D (A :: L) Q) : JL P N rd all i rest E D (A :: L) Q := JL_fact (fun _ _ hs => hs.tail.out hA) h
theorem J_say {c : Code} {A : HP} {φ : Prop} (hA : ∀ k, A k → φ) (h : φ → J P N rd c E D (A :: L) Q) : J P N rd c E D (A :: L) Q := J_fact (fun _ _ hs => hs.tail.out hA) h
/-- The first assertion, which stays, taken apart. -/
theorem JL_open {all : Array Oper} {i : Nat} {rest : List Oper} {A : HP} {α : Sort _} {B : α → List HP} (hp : Pers A) (hA : ∀ k, A k → ∃ x, Star (B x) k) (h : ∀ x, JL P N rd all i rest E D (B x ++ A :: L) Q) : JL P N rd all i rest E D (A :: L) Q := by
  intro F a w hr hs
  have h1 : Sat w (A :: A :: F :: L) := (hs.swap).dup hp
  obtain ⟨x, hx⟩ := h1.outE (B := fun x k => Star (B x) k) hA
  refine h x F a w hr ?_
  have h2 : Sat w (B x ++ (A :: F :: L)) := Sat.fold.2 hx
  exact h2.perm (by
    have e1 : (B x ++ A :: F :: L).Perm (B x ++ F :: A :: L) := (List.Perm.swap _ _ _).append_left _
    exact e1.trans List.perm_middle)
theorem J_open {c : Code} {A : HP} {α : Sort _} {B : α → List HP} (hp : Pers A) (hA : ∀ k, A k → ∃ x, Star (B x) k) (h : ∀ x, J P N rd c E D (B x ++ A :: L) Q) : J P N rd c E D (A :: L) Q := by
  intro F a w hr hs
  have h1 : Sat w (A :: A :: F :: L) := (hs.swap).dup hp
  obtain ⟨x, hx⟩ := h1.outE (B := fun x k => Star (B x) k) hA
  refine h x F a w hr ?_
  have h2 : Sat w (B x ++ (A :: F :: L)) := Sat.fold.2 hx
  exact h2.perm (by
    have e1 : (B x ++ A :: F :: L).Perm (B x ++ F :: A :: L) := (List.Perm.swap _ _ _).append_left _
    exact e1.trans List.perm_middle)
end

section
variable {P : Program} {N : Nat} {rd : Option Nat} {E : Env} {D : List Deferred} {L : List HP} {Q : Post}
def gslot (all : Array Oper) (j : Nat) : Option Nat := match all[j]? with | some o => o.dst | none => none
/-- A guard that was passed over itself. -/
def gnone (all : Array Oper) (E : Env) (j : Nat) : Bool :=
  match all[j]? with
  | some o => match o.dst with
    | some d => match Env.get E d with | some (.tuple _) => true | _ => false
    | none => false
  | none => false
theorem JL_passN {all : Array Oper} {i : Nat} {o : Oper} {rest : List Oper} {j : Nat} {want : Bool} (hg : o.guard = some (j, want)) (hv : gnone all E j = true) (hd : dok N o.dst = true)
    (h : JL P N rd all (i + 1) rest (put E o.dst undef) D L Q) : JL P N rd all i (o :: rest) E D L Q := by
  intro F a w hr hs hdr
  obtain ⟨h1, h2⟩ := drop_cons hdr
  simp only [List.length_cons, List.range'_succ, wpOpsIn]
  have h3 : all[i]? = some o := by simpa using h1
  have h4 : yielded all a.tmps j = none := by
    unfold gnone at hv
    split at hv
    · rename_i o' ho
      split at hv
      · rename_i d' hd'
        split at hv
        · rename_i vs hb
          have := hr.2.2 d' _ hb
          simp [yielded, ho, hd', this]
        · cases hv
      · cases hv
    · cases hv
  simp only [h3, Region.wanted, hg, h4, show ((none : Option Bool) == some want) = false from rfl, if_false, Bool.false_eq_true]
  exact ⟨fun f _ => trivial, h F (a.put o.dst undef) w (hr.put hd undef) hs h2⟩
/-- A guard that is not decided: both ways. -/
theorem JL_guard {all : Array Oper} {i : Nat} {o : Oper} {rest : List Oper} {j : Nat} {want : Bool} {d : Nat} {b : Bool} (_ : o.guard = some (j, want)) (_ : gslot all j = some d) (hb : Env.get E d = some (.bool b))
    (h1 : b = true → JL P N rd all i (o :: rest) ((d, .bool true) :: E) D L Q) (h2 : b = false → JL P N rd all i (o :: rest) ((d, .bool false) :: E) D L Q) : JL P N rd all i (o :: rest) E D L Q := JL_split d hb h1 h2
theorem JL_guardP {all : Array Oper} {i : Nat} {o : Oper} {rest : List Oper} {j : Nat} {want : Bool} {d : Nat} {p : Prop} {_ : Decidable p} (_ : o.guard = some (j, want)) (_ : gslot all j = some d) (hb : Env.get E d = some (.bool (decide p)))
    (h1 : p → JL P N rd all i (o :: rest) ((d, .bool true) :: E) D L Q) (h2 : ¬ p → JL P N rd all i (o :: rest) ((d, .bool false) :: E) D L Q) : JL P N rd all i (o :: rest) E D L Q := JL_splitP d hb h1 h2
end

section
variable {P : Program} {N : Nat} {rd : Option Nat} {E : Env} {D : List Deferred} {L : List HP} {Q : Post}
/-- Where ways meet: what is known behind a piece of code. -/
def cutQ (E' : Env) (D' : List Deferred) (L' : List HP) (Q : Post) : Post
  | .normal, E, D, L => Sub E' E ∧ D = D' ∧ Ent L L'
  | e, E, D, L => Q e E D L
theorem J_cut {c : Code} (E' : Env) (L' : List HP) (h : J P N rd c E D L (cutQ E' D L' Q)) (k : Q .normal E' D L') : J P N rd c E D L Q := by
  intro F a w hr hs
  refine wpIn_mono (h F a w hr hs) ?_
  rintro e a w ⟨E1, D1, L1, q, r, s⟩
  cases e with
  | normal => obtain ⟨h1, rfl, h3⟩ := q; exact ⟨E', _, L', k, r.sub h1, h3 F w s⟩
  | exit id => exact ⟨E1, D1, L1, q, r, s⟩
  | goto l => exact ⟨E1, D1, L1, q, r, s⟩
  | ret => exact ⟨E1, D1, L1, q, r, s⟩
  | panic ch => exact ⟨E1, D1, L1, q, r, s⟩
  | outgrown => exact ⟨E1, D1, L1, q, r, s⟩
/-- The same, with things that are known of each way. -/
def cutX {α : Sort _} (E' : α → Env) (D' : List Deferred) (L' : α → List HP) (Q : Post) : Post
  | .normal, E, D, L => ∃ x, Sub (E' x) E ∧ D = D' ∧ Ent L (L' x)
  | e, E, D, L => Q e E D L
theorem J_cutX {α : Sort _} {c : Code} (E' : α → Env) (L' : α → List HP) (h : J P N rd c E D L (cutX E' D L' Q)) (k : ∀ x, Q .normal (E' x) D (L' x)) : J P N rd c E D L Q := by
  intro F a w hr hs
  refine wpIn_mono (h F a w hr hs) ?_
  rintro e a w ⟨E1, D1, L1, q, r, s⟩
  cases e with
  | normal => obtain ⟨x, h1, rfl, h3⟩ := q; exact ⟨E' x, _, L' x, k x, r.sub h1, h3 F w s⟩
  | exit id => exact ⟨E1, D1, L1, q, r, s⟩
  | goto l => exact ⟨E1, D1, L1, q, r, s⟩
  | ret => exact ⟨E1, D1, L1, q, r, s⟩
  | panic ch => exact ⟨E1, D1, L1, q, r, s⟩
  | outgrown => exact ⟨E1, D1, L1, q, r, s⟩
theorem wpOps_mono {F : Fence} {n : Nat} {all : Array Oper} {Q1 Q2 : Exit → Act → World → Prop} (hq : ∀ e a w, Q1 e a w → Q2 e a w) : ∀ (l : List Nat) (a : Act) (w : World), wpOpsIn F n P all Q1 l a w → wpOpsIn F n P all Q2 l a w := by
  intro l
  induction l with
  | nil => exact fun a w h => hq _ _ _ h
  | cons i rest ih =>
    intro a w h
    simp only [wpOpsIn] at h ⊢
    split at h
    · exact ih _ _ h
    · rename_i o ho
      by_cases hw : Region.wanted o (yielded all a.tmps) = true
      · simp only [hw, if_true] at h ⊢
        refine ⟨h.1, ?_⟩
        have h2 := h.2
        unfold Oper.uponIn at h2 ⊢
        split at h2
        · exact ih _ _ h2
        · exact ih _ _ h2
        · exact ih _ _ h2
        · refine ⟨h2.1, h2.2.mono ?_⟩
          intro e w'' h3
          cases e with
          | returned v => exact ih _ _ h3
          | panicked ch => exact hq _ _ _ h3
          | outgrown => exact let ⟨a, w, h4⟩ := h3; ⟨a, w, hq _ _ _ h4⟩
        · exact ⟨h2.1, h2.2.mono fun v w'' h3 => ih _ _ h3⟩
        · refine ⟨h2.1, h2.2.mono ?_⟩
          intro e w'' h3
          cases e with
          | returned v => exact ih _ _ h3
          | panicked ch => exact hq _ _ _ h3
          | outgrown => exact let ⟨a, w, h4⟩ := h3; ⟨a, w, hq _ _ _ h4⟩
        · exact hq _ _ _ h2
        · exact h2.elim
      · simp only [hw, if_false, Bool.false_eq_true] at h ⊢
        exact ⟨h.1, ih _ _ h.2⟩
theorem JL_mono {all : Array Oper} {i : Nat} {rest : List Oper} {Q' : Post} (h : JL P N rd all i rest E D L Q) (hq : ∀ e E D L, Q e E D L → Q' e E D L) : JL P N rd all i rest E D L Q' :=
  fun F a w hr hs hd => wpOps_mono (fun _ _ _ ⟨E, D, L, q, r, s⟩ => ⟨E, D, L, hq _ _ _ _ q, r, s⟩) _ _ _ (h F a w hr hs hd)
theorem cut_lift {E' : Env} {D' : List Deferred} {L' : List HP} (k : Q .normal E' D' L') (F : HP) (e : Exit) (a : Act) (w : World) (h : lift N F (cutQ E' D' L' Q) e a w) : lift N F Q e a w := by
  obtain ⟨E1, D1, L1, q, r, s⟩ := h
  cases e with
  | normal => obtain ⟨h1, rfl, h3⟩ := q; exact ⟨E', _, L', k, r.sub h1, h3 F w s⟩
  | exit id => exact ⟨E1, D1, L1, q, r, s⟩
  | goto l => exact ⟨E1, D1, L1, q, r, s⟩
  | ret => exact ⟨E1, D1, L1, q, r, s⟩
  | panic ch => exact ⟨E1, D1, L1, q, r, s⟩
  | outgrown => exact ⟨E1, D1, L1, q, r, s⟩
theorem JL_cut {all : Array Oper} {i : Nat} {rest : List Oper} (E' : Env) (L' : List HP) (h : JL P N rd all i rest E D L (cutQ E' D L' Q)) (k : Q .normal E' D L') : JL P N rd all i rest E D L Q :=
  fun F a w hr hs hd => wpOps_mono (cut_lift k F) _ _ _ (h F a w hr hs hd)
theorem sub_bool {k : Nat} {b c : Bool} {E' E : Env} (h : Env.get E k = some (.bool b)) (hb : b = c) (hs : Sub E' E) : Sub ((k, .bool c) :: E') E := sub_cons (hb ▸ h) hs
theorem sub_int {k : Nat} {ik : IntKind} {m n : Int} {E' E : Env} (h : Env.get E k = some (.int ik m)) (hb : m = n) (hs : Sub E' E) : Sub ((k, .int ik n) :: E') E := sub_cons (hb ▸ h) hs
end

theorem length_flat {α : Type} {k : Nat} {f : α → List Value} (hf : ∀ x, (f x).length = k) : ∀ xs : List α, (xs.flatMap f).length = xs.length * k := by
  intro xs
  induction xs with
  | nil => simp
  | cons x xs ih => rw [List.flatMap_cons, List.length_append, hf, ih, List.length_cons, Nat.add_mul]; omega
theorem flat_get {α : Type} {k : Nat} {f : α → List Value} (hf : ∀ x, (f x).length = k) : ∀ (xs : List α) (j i : Nat) (x : α), i < k → xs[j]? = some x → (xs.flatMap f)[j * k + i]? = (f x)[i]? := by
  intro xs
  induction xs with
  | nil => intro j i x _ hx; simp at hx
  | cons y xs ih =>
    intro j i x hi hx
    rw [List.flatMap_cons]
    cases j with
    | zero =>
      simp at hx
      subst hx
      rw [Nat.zero_mul, Nat.zero_add, List.getElem?_append_left (by rw [hf]; exact hi)]
    | succ j =>
      simp at hx
      rw [List.getElem?_append_right (by rw [hf, Nat.add_mul]; omega), hf, show (j + 1) * k + i - k = j * k + i from by rw [Nat.add_mul]; omega]
      exact ih j i x hi hx
theorem flat_append {α : Type} {f : α → List Value} (xs ys : List α) : (xs ++ ys).flatMap f = xs.flatMap f ++ ys.flatMap f := by simp

/-- Frozen assertions on one part hold side by side. -/
theorem star_pers {h : Part} : ∀ {L : List HP}, (∀ A ∈ L, Pers A ∧ A h) → Star L h := by
  intro L
  induction L with
  | nil => exact fun _ => trivial
  | cons A L ih =>
    intro hA
    have h1 := hA A (by simp)
    exact ⟨ice h, h, ice_comp h, ice_le h, Le.refl h, h1.1 h h1.2, ih fun B hB => hA B (by simp [hB])⟩
end Go.Sp
