/- Layer 11: the law's same. -/
import Derived.Test.YtickblndgihoeaaGreatDoorM32
import Derived.Test.YtickblndgihoeaaGreatDoorM5
namespace Go.Proofs.YtickblndgihoeaaGreatDoor
open Go Go.Sp
/-- Two modules alike, but for where things stand. -/
structure SameM (a b : Mdl) : Prop where
  nodes : a.nodes.map erN = b.nodes.map erN
  temps : a.temps.map (fun t => (t.params, t.code.map erY)) = b.temps.map (fun t => (t.params, t.code.map erY))
  chans : a.chans = b.chans
  starts : a.starts.map erS = b.starts.map erS
attribute [local irreducible] callFunc Go.method J JL JO JR JR1 JRl Ct JG JM JW JW1 JQ JQ0 JS CtD LeavesQ ints WrB by8 chkA fitsP bytesL AllH ModR
theorem all_add {α : Type} (R : α → HP) (xs : List α) (x : α) (hp : ∀ x, Pers (R x)) (hx : x ∈ xs) {L M : List HP} [t : Tk (AllH R xs) L M] : Ent L (R x :: L) := by
  have hd : PersA (AllH R xs) := ⟨pers_all hp xs⟩
  exact (Ent.dup (AllH R xs)).trans (ent_turn fun k hk => by unfold AllH at hk; exact hk x hx)
theorem J_all {α : Type} (R : α → HP) (xs : List α) (x : α) (hp : ∀ x, Pers (R x)) (hx : x ∈ xs) {N : Nat} {rd : Option Nat} {c : Code} {E : Env} {D : List Deferred} {L M : List HP} {Q : Post} [t : Tk (AllH R xs) L M] (h : J Tryz.prog N rd c E D (R x :: L) Q) : J Tryz.prog N rd c E D L Q := J_heap (all_add R xs x hp hx) h
theorem J_allK {α : Type} (R : α → HP) (xs : List α) (x : α) (K : List HP) (hp : ∀ x, Pers (R x)) (hx : x ∈ xs) (hK : ∀ k, R x k → ∀ B ∈ K, Pers B ∧ B k) {N : Nat} {rd : Option Nat} {c : Code} {E : Env} {D : List Deferred} {L M : List HP} {Q : Post} [t : Tk (AllH R xs) L M] (h : J Tryz.prog N rd c E D (K ++ L) Q) : J Tryz.prog N rd c E D L Q := J_heap ((all_add R xs x hp hx).trans (ent_split fun k hk => star_pers (hK k hk))) h
theorem nodC_len (n : Nod) : (nodC n).length = 6 := rfl
theorem temC_len (t : Tem) : (temC t).length = 3 := rfl
theorem staC_len (s : Sta) : (staC s).length = 2 := rfl
theorem prmC_len (s : Prm) : (prmC s).length = 3 := rfl
theorem arC_len (s : Ar) : (arC s).length = 3 := rfl
theorem edgeC_len (s : Int × Int) : (edgeC s).length = 2 := rfl
end Go.Proofs.YtickblndgihoeaaGreatDoor
