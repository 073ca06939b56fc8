/- Drawn regions that make memory: whichever order; of each operation is said what its value is like, once it is there. -/
import Derived.Test.YtejhdhmopiahhaaDoorSp20
namespace Go.Sp
open Go.RowKit
/-- What L says, as often as one likes. -/
def HasP (L : List HP) (A : HP) : Prop := Ent L (A :: L)
theorem Ent.under {L M : List HP} (h : Ent L M) : ∀ K : List HP, Ent (K ++ L) (K ++ M)
  | [] => h
  | _ :: K => Ent.keep (Ent.under h K)
theorem Ent.perm {L M : List HP} (p : L.Perm M) : Ent L M := fun F _ hs => hs.perm (p.cons F)
theorem HasP.ext {L : List HP} {A : HP} (h : HasP L A) (K : List HP) : HasP (K ++ L) A := (Ent.under h K).trans (Ent.perm List.perm_middle)
theorem HasP.head {L : List HP} {A : HP} (hp : Pers A) : HasP (A :: L) A := fun _ _ hs => ((hs.swap).dup hp).perm (((List.Perm.swap _ _ _).cons _).trans (List.Perm.swap _ _ _))
theorem Ent.rest : ∀ (K L : List HP), Ent (K ++ L) L
  | [], _ => Ent.refl _
  | _ :: K, L => fun F w hs => Ent.rest K L F w (hs.swap.tail)
theorem lds_ext {L : List HP} {a : Addr} {v : Value} (h : Lds L a v) (K : List HP) : Lds (K ++ L) a v := fun F w hs => h F w (Ent.rest K L F w hs)
def dagOk (base : List Nat) : List Oper → Nat → List Nat → Bool
  | [], _, _ => true
  | o :: r, i, seen => match o.guard, o.dst with
    | none, some d => !(base.contains d) && (!(seen.contains d) && (o.after.toList.all (fun e => !Region.binds .any e || Nat.blt e.on i) && dagOk base r (i + 1) (d :: seen)))
    | _, _ => false
theorem dag_at {base : List Nat} : ∀ {l : List Oper} {k : Nat} {seen : List Nat}, dagOk base l k seen = true → ∀ (i : Nat) (o : Oper), l[i]? = some o → o.guard = none ∧ ∃ d, o.dst = some d ∧ d ∉ base ∧ d ∉ seen ∧ (∀ e ∈ o.after.toList, Region.binds .any e = true → e.on < k + i) ∧
    ∀ (j : Nat) (o' : Oper), i < j → l[j]? = some o' → o'.dst ≠ some d := by
  intro l
  induction l with
  | nil => intro k seen _ i o h; simp at h
  | cons o0 r ih =>
    intro k seen h i o hi
    simp only [dagOk] at h
    split at h
    · rename_i d hg hd
      simp only [Bool.and_eq_true, Bool.not_eq_true', List.contains_eq_mem, decide_eq_false_iff_not, List.all_eq_true, Bool.or_eq_true] at h
      obtain ⟨h1, h2, h3, h4⟩ := h
      cases i with
      | zero =>
        simp at hi
        subst hi
        refine ⟨hg, d, hd, h1, h2, fun e he hb => ?_, fun j o' hj ho' hd' => ?_⟩
        · have h5 := (h3 e he).resolve_left (by rw [hb]; decide)
          have : e.on < k := by simpa [Nat.blt_eq] using h5
          omega
        · obtain ⟨j, rfl⟩ : ∃ m, j = m + 1 := ⟨j - 1, by omega⟩
          obtain ⟨_, d2, h6, _, h7, _⟩ := ih h4 j o' (by simpa using ho')
          rw [h6] at hd'; cases hd'
          exact h7 (by simp)
      | succ i =>
        obtain ⟨h5, d2, h6, h7, h8, h9, h10⟩ := ih h4 i o (by simpa using hi)
        refine ⟨h5, d2, h6, h7, fun hm => h8 (by simp [hm]), fun e he hb => by have := h9 e he hb; omega, fun j o' hj ho' => ?_⟩
        obtain ⟨j, rfl⟩ : ∃ m, j = m + 1 := ⟨j - 1, by omega⟩
        exact h10 j o' (by omega) (by simpa using ho')
    · cases h
def depB (o : Oper) (j : Nat) : Bool := o.after.toList.any fun e => Region.binds .any e && Nat.beq e.on j
section
variable {P : Program} {N : Nat} {D : List Deferred} {Q : Post}
variable (P N) in
/-- What is to be shown of each operation. -/
def StepsOk (ops : Array Oper) (base : List Nat) (E0 : Env) (D : List Deferred) (L0 : List HP) (Spec : Nat → List HP → Value → Prop) (Q : Post) : List Oper → Nat → Prop
  | [], _ => True
  | o :: r, i => (∀ (E : Env) (K0 : List HP) (d : Nat), o.dst = some d → (∀ s ∈ base, Env.get E s = Env.get E0 s) → (∀ (j dj : Nat), depB o j = true → gslot ops j = some dj → ∃ v, Env.get E dj = some v ∧ Spec j (K0 ++ L0) v) →
      JO P N none o E D (K0 ++ L0) (fun E' D' L' => D' = D ∧ ∃ K v, Ent L' (K ++ (K0 ++ L0)) ∧ E' = put E (some d) v ∧ Spec i (K ++ (K0 ++ L0)) v) Q) ∧ StepsOk ops base E0 D L0 Spec Q r (i + 1)
theorem steps_at {ops : Array Oper} {base : List Nat} {E0 : Env} {L0 : List HP} {Spec : Nat → List HP → Value → Prop} : ∀ {l : List Oper} {k : Nat}, StepsOk P N ops base E0 D L0 Spec Q l k → ∀ (i : Nat) (o : Oper), l[i]? = some o →
    ∀ (E : Env) (K0 : List HP) (d : Nat), o.dst = some d → (∀ s ∈ base, Env.get E s = Env.get E0 s) → (∀ (j dj : Nat), depB o j = true → gslot ops j = some dj → ∃ v, Env.get E dj = some v ∧ Spec j (K0 ++ L0) v) →
      JO P N none o E D (K0 ++ L0) (fun E' D' L' => D' = D ∧ ∃ K v, Ent L' (K ++ (K0 ++ L0)) ∧ E' = put E (some d) v ∧ Spec (k + i) (K ++ (K0 ++ L0)) v) Q := by
  intro l
  induction l with
  | nil => intro k _ i o h; simp at h
  | cons o0 r ih =>
    intro k h i o hi
    cases i with
    | zero => simp at hi; subst hi; exact h.1
    | succ i =>
      have := ih h.2 i o (by simpa using hi)
      rw [show k + (i + 1) = k + 1 + i by omega]
      exact this
def undone : List Bool → Nat
  | [] => 0
  | true :: r => undone r
  | false :: r => undone r + 1
theorem undone_set : ∀ {ls : List Bool} {i : Nat}, ls[i]? = some false → undone (ls.set i true) + 1 = undone ls
  | [], i, h => by simp at h
  | b :: r, 0, h => by simp at h; subst h; rfl
  | b :: r, i + 1, h => by
    have := undone_set (ls := r) (i := i) (by simpa using h)
    cases b <;> simp only [List.set_cons_succ, undone] <;> omega
theorem undone_zero : ∀ {ls : List Bool}, undone ls = 0 → ∀ i, ls.getD i true = true
  | [], _, i => by simp
  | true :: r, h, 0 => rfl
  | true :: r, h, i + 1 => by simpa using undone_zero (ls := r) h i
  | false :: r, h, _ => by simp [undone] at h
theorem undone_flags : ∀ l : List Oper, undone (flags l) = cnt l
  | [] => rfl
  | _ :: r => by simp [flags, undone, cnt, undone_flags r]
theorem jal_all {ops : Array Oper} {fuel : Nat} {ls : List Bool} {E : Env} {L : List HP} (h : ∀ i, rdy ops ls i = true → JA1 P N ops fuel ls i E D L Q) : ∀ l, JAl P N ops fuel ls E D L Q l
  | [] => trivial
  | i :: r => by
    refine ⟨?_, jal_all h r⟩
    cases hr : rdy ops ls i with
    | true => exact h i hr
    | false => trivial
/-- Of each operation that is done: what its value is like. -/
def DagInv (ops : Array Oper) (base : List Nat) (E0 : Env) (Spec : Nat → List HP → Value → Prop) (ls : List Bool) (E : Env) (L : List HP) : Prop :=
  ls.length = ops.toList.length ∧ (∀ s ∈ base, Env.get E s = Env.get E0 s) ∧ ∀ (i d : Nat), gslot ops i = some d → ls.getD i false = true → ∃ v, Env.get E d = some v ∧ Spec i L v
theorem gslot_of {ops : Array Oper} {i d : Nat} (h : gslot ops i = some d) : ∃ o, ops.toList[i]? = some o ∧ o.dst = some d := by
  unfold gslot at h
  split at h
  · rename_i o ho
    exact ⟨o, by simpa using ho, h⟩
  · cases h
theorem dag_go {ops : Array Oper} {base : List Nat} {E0 : Env} {L0 : List HP} {Spec : Nat → List HP → Value → Prop} (hok : dagOk base ops.toList 0 [] = true) (hmono : ∀ i L v, Spec i L v → ∀ K, Spec i (K ++ L) v)
    (hst : StepsOk P N ops base E0 D L0 Spec Q ops.toList 0)
    (hfin : ∀ E K, (∀ s ∈ base, Env.get E s = Env.get E0 s) → (∀ (i d : Nat), gslot ops i = some d → ∃ v, Env.get E d = some v ∧ Spec i (K ++ L0) v) → Q .normal E D (K ++ L0)) :
    ∀ (fuel : Nat) (ls : List Bool) (E : Env) (K : List HP), undone ls ≤ fuel → DagInv ops base E0 Spec ls E (K ++ L0) → JA P N ops fuel ls E D (K ++ L0) Q := by
  intro fuel
  induction fuel with
  | zero =>
    intro ls E K hu hI
    have hall := undone_zero (ls := ls) (by omega)
    refine JA_end ?_ (hfin E K hI.2.1 fun i d hg => hI.2.2 i d hg ?_)
    · rw [orL_eq, List.any_eq_false]
      intro i _
      unfold rdy
      rw [hall i]
      simp
    · obtain ⟨o, ho, _⟩ := gslot_of hg
      have hi : i < ls.length := by rw [hI.1]; exact (List.getElem?_eq_some_iff.1 ho).1
      have := hall i
      simp only [List.getD_eq_getElem?_getD, List.getElem?_eq_getElem hi, Option.getD_some] at this ⊢
      exact this
  | succ fuel ih =>
    intro ls E K hu hI
    cases hor : orL (rdy ops ls) (idxs ops.toList 0) with
    | false =>
      refine JA_end hor (hfin E K hI.2.1 fun i d hg => hI.2.2 i d hg ?_)
      rw [orL_eq, ← idxs_range, List.any_eq_false] at hor
      have key : ∀ i, i < ops.toList.length → ls.getD i false = true := by
        intro i
        induction i using Nat.strongRecOn with
        | _ i ih2 =>
          intro hi
          obtain ⟨o, ho⟩ : ∃ o, ops.toList[i]? = some o := ⟨_, List.getElem?_eq_getElem hi⟩
          obtain ⟨_, _, _, _, _, h5, _⟩ := dag_at hok i o ho
          have h6 := hor i (by simpa using hi)
          cases hd : ls.getD i false with
          | true => rfl
          | false =>
            exfalso
            apply h6
            have hil : i < ls.length := by rw [hI.1]; exact hi
            have hd2 : ls.getD i true = false := by
              simp only [List.getD_eq_getElem?_getD, List.getElem?_eq_getElem hil, Option.getD_some] at hd ⊢
              exact hd
            unfold rdy
            rw [hd2, ho]
            simp only [Bool.not_false, Option.map_some, Option.getD_some, Bool.true_and, List.all_eq_true]
            intro e he
            cases hb : Region.binds .any e with
            | false => rfl
            | true =>
              have h7 := h5 e he hb
              have h8 := ih2 e.on (by omega) (by omega)
              rw [h8]; rfl
      obtain ⟨o, ho, _⟩ := gslot_of hg
      exact key i (List.getElem?_eq_some_iff.1 ho).1
    | true =>
      refine JA_step hor (jal_all (fun i hr => ?_) _)
      unfold rdy at hr
      simp only [Bool.and_eq_true, Bool.not_eq_true'] at hr
      obtain ⟨hr1, hr2⟩ := hr
      cases ho : ops.toList[i]? with
      | none => rw [ho] at hr2; simp at hr2
      | some o =>
        rw [ho] at hr2
        simp only [Option.map_some, Option.getD_some, List.all_eq_true, Bool.or_eq_true, Bool.not_eq_true'] at hr2
        obtain ⟨hg, d, hd, hnb, _, _, hdis⟩ := dag_at hok i o ho
        have hil : i < ls.length := by rw [hI.1]; exact (List.getElem?_eq_some_iff.1 ho).1
        have hf : ls[i]? = some false := by
          simp only [List.getD_eq_getElem?_getD, List.getElem?_eq_getElem hil, Option.getD_some] at hr1
          rw [List.getElem?_eq_getElem hil, hr1]
        have hus := undone_set hf
        have hstep := steps_at hst i o ho E K d hd hI.2.1 (fun j dj hdep hgj => by
          unfold depB at hdep
          rw [List.any_eq_true] at hdep
          obtain ⟨e, he, hb⟩ := hdep
          simp only [Bool.and_eq_true] at hb
          have hej : e.on = j := Nat.eq_of_beq_eq_true hb.2
          have h9 := (hr2 e he).resolve_left (by rw [hb.1]; decide)
          rw [hej] at h9
          exact hI.2.2 j dj hgj h9)
        refine JA_op ho hg (JO_mono hstep ?_)
        rintro E' D' L' ⟨rfl, K', v, hent, rfl, hsp⟩
        have hnext : JA P N ops fuel (ls.set i true) (put E (some d) v) D' ((K' ++ K) ++ L0) Q := by
          refine ih (ls.set i true) _ (K' ++ K) (by omega) ⟨by rw [List.length_set]; exact hI.1, fun s hs => ?_, fun j dj hgj hj => ?_⟩
          · simp only [put, get_cons]
            have : ¬ d = s := fun e => hnb (e ▸ hs)
            rw [if_neg this]
            exact hI.2.1 s hs
          · simp only [put, get_cons]
            by_cases hji : j = i
            · subst hji
              obtain ⟨o2, ho2, hd2⟩ := gslot_of hgj
              rw [ho] at ho2; cases ho2
              rw [hd] at hd2; cases hd2
              refine ⟨v, by simp, ?_⟩
              rw [List.append_assoc]
              rw [Nat.zero_add] at hsp
              exact hsp
            · have hj2 : ls.getD j false = true := by
                simp only [List.getD_eq_getElem?_getD, List.getElem?_set_ne (Ne.symm hji)] at hj ⊢
                exact hj
              obtain ⟨u, h10, h11⟩ := hI.2.2 j dj hgj hj2
              obtain ⟨o2, ho2, hd2⟩ := gslot_of hgj
              have hne : ¬ d = dj := by
                intro e
                subst e
                rcases Nat.lt_or_ge i j with hij | hij
                · exact hdis j o2 hij ho2 hd2
                · obtain ⟨_, d3, hd3, _, _, _, hdis3⟩ := dag_at hok j o2 ho2
                  rw [hd2] at hd3; cases hd3
                  exact hdis3 i o (by omega) ho hd
              refine ⟨u, by rw [if_neg hne]; exact h10, ?_⟩
              rw [List.append_assoc]
              exact hmono j _ u h11 K'
        rw [List.append_assoc] at hnext
        exact fun F a w hr hs => hnext F a w hr (hent F w hs)
/-- A drawn region without guards, each operation of which leaves a value that is like so. -/
theorem J_regionDag [Mixed P] {id : Nat} {ops : Array Oper} {E0 : Env} {L0 : List HP} (base : List Nat) (Spec : Nat → List HP → Value → Prop) (hok : dagOk base ops.toList 0 [] = true) (hmono : ∀ i L v, Spec i L v → ∀ K, Spec i (K ++ L) v)
    (hst : StepsOk P N ops base E0 D L0 Spec Q ops.toList 0)
    (hfin : ∀ E K, (∀ s ∈ base, Env.get E s = Env.get E0 s) → (∀ (i d : Nat), gslot ops i = some d → ∃ v, Env.get E d = some v ∧ Spec i (K ++ L0) v) → Q .normal E D (K ++ L0)) : J P N none (.region id ops true) E0 D L0 Q := by
  refine J_regionD ?_
  refine dag_go hok hmono hst hfin (cnt ops.toList) (flags ops.toList) E0 [] (by rw [undone_flags]; exact Nat.le_refl _) ⟨by rw [flags_eq]; simp, fun _ _ => rfl, fun i d _ h => ?_⟩
  rw [flags_eq] at h
  simp only [List.getD_eq_getElem?_getD, List.getElem?_replicate] at h
  split at h <;> cases h
end
end Go.Sp
