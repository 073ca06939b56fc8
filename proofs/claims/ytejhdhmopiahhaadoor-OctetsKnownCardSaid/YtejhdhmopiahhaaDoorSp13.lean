/- Regions that draw their order. -/
import Derived.Test.YtejhdhmopiahhaaDoorSp12
import Derived.OrdersIn
namespace Go.Sp
open Go.RowKit
/-- May the operation i come up now? -/
def rdy (ops : Array Oper) (ls : List Bool) (i : Nat) : Bool :=
  !ls.getD i true && ((ops.toList[i]?).map (·.after.toList.all fun e => !Region.binds .any e || ls.getD e.on false)).getD false
theorem rdy_eq {ops : Array Oper} {ls : List Bool} : Region.ready .any ops ls.toArray = (List.range ops.size).filter (rdy ops ls) := by
  unfold Region.ready
  congr 1
  funext i
  unfold rdy
  simp only [Array.getElem?_toList, Array.all_toList]
  simp
def idxs : List Oper → Nat → List Nat
  | [], _ => []
  | _ :: r, k => k :: idxs r (k + 1)
theorem idxs_eq : ∀ (l : List Oper) (k : Nat), idxs l k = List.range' k l.length
  | [], _ => rfl
  | _ :: r, k => by simp [idxs, idxs_eq r (k + 1), List.range'_succ]
theorem idxs_range (ops : Array Oper) : List.range ops.size = idxs ops.toList 0 := by rw [idxs_eq, List.range_eq_range', Array.length_toList]
def orL (f : Nat → Bool) : List Nat → Bool
  | [] => false
  | i :: r => match f i with | true => true | false => orL f r
theorem orL_eq (f : Nat → Bool) : ∀ l, orL f l = l.any f
  | [] => rfl
  | i :: r => by simp only [orL, List.any_cons]; cases f i <;> simp [orL_eq f r]
class Mixed (P : Program) : Prop where h : P.follows .mixedOrders = true
section
variable {P : Program} {N : Nat} {E : Env} {D : List Deferred} {L : List HP} {Q : Post}
variable (P N) in
def JA (ops : Array Oper) (fuel : Nat) (ls : List Bool) (E : Env) (D : List Deferred) (L : List HP) (Q : Post) : Prop :=
  ∀ (F : HP) (a : Act) (w : World), Rep N E D a → Sat w (F :: L) → wpAnyIn (FW none) 0 P .any ops (lift N F Q) fuel ls.toArray a w
variable (P N) in
def JA1 (ops : Array Oper) (fuel : Nat) (ls : List Bool) (i : Nat) (E : Env) (D : List Deferred) (L : List HP) (Q : Post) : Prop :=
  ∀ (F : HP) (a : Act) (w : World), Rep N E D a → Sat w (F :: L) → wpOpIn (FW none) 0 P ops (lift N F Q) i (wpAnyIn (FW none) 0 P .any ops (lift N F Q) fuel (ls.set i true).toArray) a w
variable (P N) in
def JAl (ops : Array Oper) (fuel : Nat) (ls : List Bool) (E : Env) (D : List Deferred) (L : List HP) (Q : Post) : List Nat → Prop
  | [] => True
  | i :: r => (match rdy ops ls i with | true => JA1 P N ops fuel ls i E D L Q | false => True) ∧ JAl ops fuel ls E D L Q r
theorem jal_mem {ops : Array Oper} {fuel : Nat} {ls : List Bool} : ∀ {r : List Nat}, JAl P N ops fuel ls E D L Q r → ∀ i ∈ r, rdy ops ls i = true → JA1 P N ops fuel ls i E D L Q := by
  intro r
  induction r with
  | nil => intro _ i hi; cases hi
  | cons j r ih =>
    rintro ⟨h1, h2⟩ i hi hr
    simp only [List.mem_cons] at hi
    rcases hi with rfl | hi
    · rw [hr] at h1; exact h1
    · exact ih h2 i hi hr
def cnt : List Oper → Nat
  | [] => 0
  | _ :: r => cnt r + 1
theorem cnt_eq : ∀ l : List Oper, cnt l = l.length
  | [] => rfl
  | _ :: r => by simp [cnt, cnt_eq r]
def flags : List Oper → List Bool
  | [] => []
  | _ :: r => false :: flags r
theorem flags_eq : ∀ l : List Oper, flags l = List.replicate l.length false
  | [] => rfl
  | _ :: r => by simp [flags, flags_eq r, List.replicate_succ]
theorem J_regionD [Mixed P] {id : Nat} {ops : Array Oper} (h : JA P N ops (cnt ops.toList) (flags ops.toList) E D L Q) : J P N none (.region id ops true) E D L Q := fun F a w hr hs => by
  refine wpIn_region_any Mixed.h ?_
  have := h F a { w with drawn := w.drawn + 1 } hr (hs.world rfl)
  rw [flags_eq, cnt_eq, List.toArray_replicate, Array.length_toList] at this
  exact this
theorem jal_nil {ops : Array Oper} {fuel : Nat} {ls : List Bool} : JAl P N ops fuel ls E D L Q [] := trivial
theorem jal_no {ops : Array Oper} {fuel i : Nat} {ls : List Bool} {r : List Nat} (h : rdy ops ls i = false) (h2 : JAl P N ops fuel ls E D L Q r) : JAl P N ops fuel ls E D L Q (i :: r) := ⟨by rw [h]; trivial, h2⟩
theorem jal_yes {ops : Array Oper} {fuel i : Nat} {ls : List Bool} {r : List Nat} (h : rdy ops ls i = true) (h1 : JA1 P N ops fuel ls i E D L Q) (h2 : JAl P N ops fuel ls E D L Q r) : JAl P N ops fuel ls E D L Q (i :: r) := ⟨by rw [h]; exact h1, h2⟩
theorem JA_step {ops : Array Oper} {fuel : Nat} {ls : List Bool} (hne : orL (rdy ops ls) (idxs ops.toList 0) = true) (h : JAl P N ops fuel ls E D L Q (idxs ops.toList 0)) : JA P N ops (fuel + 1) ls E D L Q := by
  rw [orL_eq] at hne
  rw [← idxs_range] at hne h
  intro F a w hr hs
  refine ⟨fun h0 => ?_, fun i hi => ?_⟩
  · exfalso
    rw [rdy_eq, List.filter_eq_nil_iff] at h0
    rw [List.any_eq_true] at hne
    obtain ⟨i, h1, h2⟩ := hne
    exact h0 i h1 h2
  · rw [rdy_eq, List.mem_filter] at hi
    have := jal_mem h i hi.1 hi.2 F a w hr hs
    rw [List.setIfInBounds_toArray]
    exact this
theorem JA_end {ops : Array Oper} {fuel : Nat} {ls : List Bool} (hne : orL (rdy ops ls) (idxs ops.toList 0) = false) (h : Q .normal E D L) : JA P N ops fuel ls E D L Q := by
  rw [orL_eq, ← idxs_range] at hne
  intro F a w hr hs
  have h0 : Region.ready .any ops ls.toArray = [] := by
    rw [rdy_eq, List.filter_eq_nil_iff]
    intro i hi hr
    rw [List.any_eq_false] at hne
    exact hne i hi hr
  cases fuel with
  | zero => exact ⟨h0, E, D, L, h, hr, hs⟩
  | succ fuel => exact ⟨fun _ => ⟨E, D, L, h, hr, hs⟩, fun i hi => by rw [h0] at hi; cases hi⟩
theorem JA_op {ops : Array Oper} {fuel i : Nat} {ls : List Bool} {o : Oper} (ho : ops.toList[i]? = some o) (hg : o.guard = none) (h : JO P N none o E D L (fun E' D' L' => JA P N ops fuel (ls.set i true) E' D' L' Q) Q) : JA1 P N ops fuel ls i E D L Q := by
  intro F a w hr hs
  rw [Array.getElem?_toList] at ho
  simp only [wpOpIn, ho, Region.wanted, hg, if_true]
  exact h F a w hr hs _ fun E' D' L' a' w' hn hr' hs' => hn F a' w' hr' hs'
theorem JA_take {ops : Array Oper} {fuel i : Nat} {ls : List Bool} {o : Oper} {j : Nat} {want : Bool} (ho : ops.toList[i]? = some o) (hg : o.guard = some (j, want)) (hv : gval ops E j = some want) (h : JO P N none o E D L (fun E' D' L' => JA P N ops fuel (ls.set i true) E' D' L' Q) Q) : JA1 P N ops fuel ls i E D L Q := by
  intro F a w hr hs
  rw [Array.getElem?_toList] at ho
  simp only [wpOpIn, ho, Region.wanted, hg, yielded_of hr hv, beq_self_eq_true, if_true]
  exact h F a w hr hs _ fun E' D' L' a' w' hn hr' hs' => hn F a' w' hr' hs'
theorem JA_pass {ops : Array Oper} {fuel i : Nat} {ls : List Bool} {o : Oper} {j : Nat} {want : Bool} (ho : ops.toList[i]? = some o) (hg : o.guard = some (j, want)) (hv : gval ops E j = some (!want)) (hd : dok N o.dst = true) (h : JA P N ops fuel (ls.set i true) (put E o.dst undef) D L Q) : JA1 P N ops fuel ls i E D L Q := by
  intro F a w hr hs
  rw [Array.getElem?_toList] at ho
  have h4 : (some (!want) == some want) = false := by cases want <;> rfl
  simp only [wpOpIn, ho, Region.wanted, hg, yielded_of hr hv, h4, if_false, Bool.false_eq_true]
  exact ⟨fun f _ => trivial, h F (a.put o.dst undef) w (hr.put hd undef) hs⟩
end
end Go.Sp
