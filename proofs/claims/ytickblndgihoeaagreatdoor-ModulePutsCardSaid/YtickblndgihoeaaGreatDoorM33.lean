/- Layer 11: the law's same. -/
import Derived.Test.YtickblndgihoeaaGreatDoorM32
import Derived.Test.YtickblndgihoeaaGreatDoorM5
namespace Go.Proofs.YtickblndgihoeaaGreatDoor
open Go Go.Sp
structure SameM (a b : Mdl) : Prop where
  nodes : a.nodes.map erN = b.nodes.map erN
  temps : a.temps.map (fun t => (t.params,t.code.map erY)) = b.temps.map (fun t => (t.params,t.code.map erY))
  chans : a.chans = b.chans
  starts : a.starts.map erS = b.starts.map erS
theorem eq_iiS {t a b : TypeId} {k q : IntKind} [FT Tryz.prog t [(a,0),(b,1)]] [TU Tryz.prog a (.int k)] [TU Tryz.prog b (.int q)] {u v : IntKind} (m n : Int) (e : Nat) (w : World) : (Op.equalIn (e + 2) t (.agg #[.int u m,.int v n]) (.agg #[.int u m,.int v n])).run Tryz.prog w = .ok true w := by
  rw [eq_ii];simp
attribute [local irreducible] callFunc Go.method J JL JO JR JR1 JRl Ct JG JM JM1 JW JW1 JQ JQ0 JS CtD yW ints WrB by8 chkA tA uI zZ vY
theorem all_add {α : Type} (R : α → HP) (xs : List α) (x : α) (hp : ∀ x,Pers (R x)) (hx : x ∈ xs) {L M : List HP} [t : Tk (zZ R xs) L M] : Ent L (R x :: L) := by
  have hd : PersA (zZ R xs) := ⟨tE hp xs⟩
  exact (Ent.dup (zZ R xs)).trans (ent_turn fun k hk => by unfold zZ at hk;exact hk x hx)
theorem J_all {α : Type} (R : α → HP) (xs : List α) (x : α) (hp : ∀ x,Pers (R x)) (hx : x ∈ xs) {N : Nat} {rd : Option Nat} {c : Code} {E : Env} {D : List Deferred} {L M : List HP} {Q : wR} [t : Tk (zZ R xs) L M] (h : J Tryz.prog N rd c E D (R x :: L) Q) : J Tryz.prog N rd c E D L Q := wJ (all_add R xs x hp hx) h
theorem J_allK {α : Type} (R : α → HP) (xs : List α) (x : α) (K : List HP) (hp : ∀ x,Pers (R x)) (hx : x ∈ xs) (hK : ∀ k,R x k → ∀ B ∈ K,Pers B ∧ B k) {N : Nat} {rd : Option Nat} {c : Code} {E : Env} {D : List Deferred} {L M : List HP} {Q : wR} [t : Tk (zZ R xs) L M] (h : J Tryz.prog N rd c E D (K ++ L) Q) : J Tryz.prog N rd c E D L Q := wJ ((all_add R xs x hp hx).trans (ent_split fun k hk => star_pers (hK k hk))) h
theorem temR_K (t : Tem) : ∀ k,vW t k → ∀ B ∈ [Vw 3 (slc t.pa t.params.length) t.params.length (t.params.flatMap prmC),Vw 6 (slc t.ca t.code.length) t.code.length (t.code.flatMap vL),zZ tB t.code],Pers B ∧ B k := fun k hk B hB => by
  simp only [List.mem_cons,List.not_mem_nil,or_false] at hB
  rcases hB with rfl | rfl | rfl
  · exact ⟨wY _ _ _ _,hk.1⟩
  · exact ⟨wY _ _ _ _,hk.2.1⟩
  · exact ⟨tE pers_insR _,hk.2.2.1⟩
theorem nodC_len (n : Nod) : (wI n).length = 6 := rfl
theorem temC_len (t : Tem) : (wK t).length = 3 := rfl
theorem staC_len (s : Sta) : (vE s).length = 2 := rfl
theorem prmC_len (s : Prm) : (prmC s).length = 3 := rfl
theorem arC_len (s : Ar) : (arC s).length = 3 := rfl
theorem edgeC_len (s : Int × Int) : (yG s).length = 2 := rfl
structure BndM (m : Mdl) : Prop where
  n : m.nodes.length ≤ 100000 ∧ ∀ x ∈ m.nodes,x.next.length ≤ 100000
  t : m.temps.length ≤ 100000 ∧ ∀ x ∈ m.temps,x.params.length ≤ 100000 ∧ x.code.length ≤ 100000
  c : m.chans.length ≤ 100000
  s : m.starts.length ≤ 100000 ∧ ∀ x ∈ m.starts,x.args.length ≤ 100000
theorem modR7 (m : Mdl) {L : List HP} : Ent (vY m :: L) (Vw 6 (slc m.na m.nodes.length) m.nodes.length (m.nodes.flatMap wI) :: zZ wV m.nodes :: Vw 3 (slc m.ta m.temps.length) m.temps.length (m.temps.flatMap wK) :: zZ vW m.temps :: Vw 2 (slc m.ca m.chans.length) m.chans.length (m.chans.flatMap yG) :: Vw 2 (slc m.sa m.starts.length) m.starts.length (m.starts.flatMap vE) :: zZ tK m.starts :: L) :=
  ent_split (A := vY m) (M := [_,_,_,_,_,_,_]) fun k hk => star_pers fun A hA => by
    have hm : A ∈ modK m := by
      have h7 : A ∈ (modK m).take 7 := hA
      exact List.mem_of_mem_take h7
    exact ⟨pers_modK m A hm,by unfold vY at hk;exact hk A hm⟩
end Go.Proofs.YtickblndgihoeaaGreatDoor
