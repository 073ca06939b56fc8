/- Layer 11: the law's same. -/
import Derived.Test.YtickblndgihoeaaGreatDoorM32
import Derived.Test.YtickblndgihoeaaGreatDoorM5
namespace Go.Proofs.YtickblndgihoeaaGreatDoor
open Go Go.Sp
instance ftParam : FT Tryz.prog 62 [(4,0),(60,1)] := FT.mk' (by kernel_rfl) (by kernel_rfl) (by kernel_rfl) (by kernel_rfl)
instance ftArg : FT Tryz.prog 64 [(4,0),(2,1),(3,2)] := FT.mk' (by kernel_rfl) (by kernel_rfl) (by kernel_rfl) (by kernel_rfl)
structure SameM (a b : Mdl) : Prop where
  nodes : a.nodes.map erN = b.nodes.map erN
  temps : a.temps.map (fun t => (t.params,t.code.map erY)) = b.temps.map (fun t => (t.params,t.code.map erY))
  chans : a.chans = b.chans
  starts : a.starts.map erS = b.starts.map erS
theorem map_two {α β : Type} {f : α → β} {xs ys : List α} (h : xs.map f = ys.map f) : xs.length = ys.length ∧ ∀ (i : Nat),i < xs.length → ∃ x y,xs[i]? = some x ∧ ys[i]? = some y ∧ f x = f y := by
  have hl : xs.length = ys.length := by simpa using congrArg List.length h
  refine ⟨hl,fun i hi => ⟨_,_,List.getElem?_eq_getElem hi,List.getElem?_eq_getElem (hl ▸ hi),?_⟩⟩
  have := congrArg (fun l => l[i]?) h
  simp only [List.getElem?_map,List.getElem?_eq_getElem hi,List.getElem?_eq_getElem (show i < ys.length from hl ▸ hi),Option.map_some,Option.some.injEq] at this
  exact this
theorem eq_iiS {t a b : TypeId} {k q : IntKind} [FT Tryz.prog t [(a,0),(b,1)]] [TU Tryz.prog a (.int k)] [TU Tryz.prog b (.int q)] {u v : IntKind} (m n : Int) (e : Nat) (w : World) : (Op.equalIn (e + 2) t (.agg #[.int u m,.int v n]) (.agg #[.int u m,.int v n])).run Tryz.prog w = .ok true w := by
  rw [eq_ii];simp
theorem eq_prm (p : Prm) (w : World) : (Op.equalIn 10000 62 (.agg (tI p).toArray) (.agg (tI p).toArray)).run Tryz.prog w = .ok true w :=
  run_eqT (P := Tryz.prog) (t := 62) 9999 _ _ [p.ch == p.ch,true] rfl (fun i y o r h1 h2 => by
    rcases i with _ | _ | i
    · cases h1;cases h2;exact field_bool rfl rfl
    · cases h1;cases h2
      exact field_agg (n := 2) (us := #[.int .i64 p.ty.1,.int .i64 p.ty.2]) (vs := #[.int .i64 p.ty.1,.int .i64 p.ty.2]) rfl rfl fun w => eq_iiS p.ty.1 p.ty.2 9997 w
    · simp at h1) w |>.trans (by simp)
theorem eq_ar (p : Ar) (w : World) : (Op.equalIn 10000 64 (.agg (arC p).toArray) (.agg (arC p).toArray)).run Tryz.prog w = .ok true w :=
  run_eqT (P := Tryz.prog) (t := 64) 9999 _ _ [p.ch == p.ch,p.word == p.word,p.en == p.en] rfl (fun i y o r h1 h2 => by
    rcases i with _ | _ | _ | i
    · cases h1;cases h2;exact field_bool rfl rfl
    · cases h1;cases h2;exact field_int (q' := .i64) rfl rfl
    · cases h1;cases h2;exact field_int (q' := .i64) rfl rfl
    · simp at h1) w |>.trans (by simp)
attribute [local irreducible] callFunc Go.method J JL JO JR JR1 JRl Ct JG JM JM1 JW JW1 JQ JQ0 JS CtD xB ints WrB by8 chkA fitsP tJ yB uK
theorem all_add {α : Type} (R : α → HP) (xs : List α) (x : α) (hp : ∀ x,Pers (R x)) (hx : x ∈ xs) {L M : List HP} [t : Tk (yB R xs) L M] : Ent L (R x :: L) := by
  have hd : PersA (yB R xs) := ⟨pers_all hp xs⟩
  exact (Ent.dup (yB R xs)).trans (ent_turn fun k hk => by unfold yB at hk;exact hk x hx)
theorem J_all {α : Type} (R : α → HP) (xs : List α) (x : α) (hp : ∀ x,Pers (R x)) (hx : x ∈ xs) {N : Nat} {rd : Option Nat} {c : Code} {E : Env} {D : List Deferred} {L M : List HP} {Q : uF} [t : Tk (yB R xs) L M] (h : J Tryz.prog N rd c E D (R x :: L) Q) : J Tryz.prog N rd c E D L Q := xQ (all_add R xs x hp hx) h
theorem J_allK {α : Type} (R : α → HP) (xs : List α) (x : α) (K : List HP) (hp : ∀ x,Pers (R x)) (hx : x ∈ xs) (hK : ∀ k,R x k → ∀ B ∈ K,Pers B ∧ B k) {N : Nat} {rd : Option Nat} {c : Code} {E : Env} {D : List Deferred} {L M : List HP} {Q : uF} [t : Tk (yB R xs) L M] (h : J Tryz.prog N rd c E D (K ++ L) Q) : J Tryz.prog N rd c E D L Q := xQ ((all_add R xs x hp hx).trans (ent_split fun k hk => star_pers (hK k hk))) h
theorem temR_K (t : Tem) : ∀ k,wS t k → ∀ B ∈ [Vw 3 (slc t.pa t.params.length) t.params.length (t.params.flatMap tI),Vw 6 (slc t.ca t.code.length) t.code.length (t.code.flatMap vC),yB uT t.code],Pers B ∧ B k := fun k hk B hB => by
  simp only [List.mem_cons,List.not_mem_nil,or_false] at hB
  rcases hB with rfl | rfl | rfl
  · exact ⟨vQ _ _ _ _,hk.1⟩
  · exact ⟨vQ _ _ _ _,hk.2.1⟩
  · exact ⟨pers_all pers_insR _,hk.2.2.1⟩
theorem nodC_len (n : Nod) : (xR n).length = 6 := rfl
theorem temC_len (t : Tem) : (wA t).length = 3 := rfl
theorem staC_len (s : Sta) : (vE s).length = 2 := rfl
theorem prmC_len (s : Prm) : (tI s).length = 3 := rfl
theorem arC_len (s : Ar) : (arC s).length = 3 := rfl
theorem edgeC_len (s : Int × Int) : (yI s).length = 2 := rfl
structure BndM (m : Mdl) : Prop where
  n : m.nodes.length ≤ 100000 ∧ ∀ x ∈ m.nodes,x.next.length ≤ 100000
  t : m.temps.length ≤ 100000 ∧ ∀ x ∈ m.temps,x.params.length ≤ 100000 ∧ x.code.length ≤ 100000
  c : m.chans.length ≤ 100000
  s : m.starts.length ≤ 100000 ∧ ∀ x ∈ m.starts,x.args.length ≤ 100000
theorem modR7 (m : Mdl) {L : List HP} : Ent (uK m :: L) (Vw 6 (slc m.na m.nodes.length) m.nodes.length (m.nodes.flatMap xR) :: yB wG m.nodes :: Vw 3 (slc m.ta m.temps.length) m.temps.length (m.temps.flatMap wA) :: yB wS m.temps :: Vw 2 (slc m.ca m.chans.length) m.chans.length (m.chans.flatMap yI) :: Vw 2 (slc m.sa m.starts.length) m.starts.length (m.starts.flatMap vE) :: yB StaQ m.starts :: L) :=
  ent_split (A := uK m) (M := [_,_,_,_,_,_,_]) fun k hk => star_pers fun A hA => by
    have hm : A ∈ modK m := by
      have h7 : A ∈ (modK m).take 7 := hA
      exact List.mem_of_mem_take h7
    exact ⟨pers_modK m A hm,by unfold uK at hk;exact hk A hm⟩
end Go.Proofs.YtickblndgihoeaaGreatDoor
