/- Parts of rows of structs: one thing; made rows of structs, frozen. -/
import Derived.Test.YtickblndgihoeaaGreatDoorM34
import Derived.Test.YtickblndgihoeaaGreatDoorM35
import Derived.Test.YtickblndgihoeaaGreatDoorM5
import Derived.Test.YtickblndgihoeaaGreatDoorM0
namespace Go.Sp
open Go.RowKit
section
variable {P : Program} {N : Nat} {rd : Option Nat} {E : Env} {D : List Deferred} {L : List HP} {Q : uF} {next : Env → List Deferred → List HP → Prop}
variable {d : Option Nat} {ty : TypeId} {pos : String} {after : Array Edge} {g : Option (Nat × Bool)}
end
end Go.Sp

/- Layer 11: fresh modules;what cannot be laid. -/
namespace Go.Proofs.YtickblndgihoeaaGreatDoor
open Go Go.Sp
abbrev freshM (ns : List Nod) (na : SA) (ts : List Tem) (ta : SA) (cs : List (Int × Int)) (ca : SA) (ss : List Sta) (sa : SA) : Mdl := ⟨ns,na,ts,ta,cs,ca,ss,sa,[],no0,[],no0,[],no0,[],no0⟩
theorem fresh_in {ns : List Nod} {na : SA} {ts : List Tem} {ta : SA} {cs : List (Int × Int)} {ca : SA} {ss : List Sta} {sa : SA} {k : Part} (h1 : Vw 6 (slc na ns.length) ns.length (ns.flatMap xR) k) (h2 : yB wG ns k) (h3 : Vw 3 (slc ta ts.length) ts.length (ts.flatMap wA) k) (h4 : yB wS ts k)
    (h5 : Vw 2 (slc ca cs.length) cs.length (cs.flatMap yI) k) (h6 : Vw 2 (slc sa ss.length) ss.length (ss.flatMap vE) k) (h7 : yB StaQ ss k) : uK (freshM ns na ts ta cs ca ss sa) k := by
  have hi : Vw 1 (slc no0 0) 0 (ints []) k := by rw [ints_nil];exact nil_vw 1 k
  intro A hA
  simp only [modK,List.mem_cons,List.not_mem_nil,or_false] at hA
  rcases hA with rfl | rfl | rfl | rfl | rfl | rfl | rfl | rfl | rfl | rfl | rfl
  · exact h1
  · exact h2
  · exact h3
  · exact h4
  · exact h5
  · exact h6
  · exact h7
  · exact hi
  · exact hi
  · exact hi
  · exact hi
theorem freshR {ns : List Nod} {na : SA} {ts : List Tem} {ta : SA} {cs : List (Int × Int)} {ca : SA} {ss : List Sta} {sa : SA} {L : List HP} : Ent (Vw 6 (slc na ns.length) ns.length (ns.flatMap xR) :: yB wG ns :: Vw 3 (slc ta ts.length) ts.length (ts.flatMap wA) :: yB wS ts :: Vw 2 (slc ca cs.length) cs.length (cs.flatMap yI) :: Vw 2 (slc sa ss.length) ss.length (ss.flatMap vE) :: yB StaQ ss :: L)
    (uK (freshM ns na ts ta cs ca ss sa) :: L) := ent_join (A := uK (freshM ns na ts ta cs ca ss sa)) (M := [_,_,_,_,_,_,_]) fun k hk => by
  have hu : ∀ B ∈ [Vw 6 (slc na ns.length) ns.length (ns.flatMap xR),yB wG ns,Vw 3 (slc ta ts.length) ts.length (ts.flatMap wA),yB wS ts,Vw 2 (slc ca cs.length) cs.length (cs.flatMap yI),Vw 2 (slc sa ss.length) ss.length (ss.flatMap vE),yB StaQ ss],Up B := fun B hB => by
    simp only [List.mem_cons,List.not_mem_nil,or_false] at hB
    rcases hB with rfl | rfl | rfl | rfl | rfl | rfl | rfl
    · exact up_vw _ _ _ _
    · exact up_all (fun n => up_vw _ _ _ _) _
    · exact up_vw _ _ _ _
    · exact up_all up_temR _
    · exact up_vw _ _ _ _
    · exact up_vw _ _ _ _
    · exact up_all up_staQ _
  have h := star_up hu hk
  exact fresh_in (h _ (by simp)) (h _ (by simp)) (h _ (by simp)) (h _ (by simp)) (h _ (by simp)) (h _ (by simp)) (h _ (by simp))
end Go.Proofs.YtickblndgihoeaaGreatDoor

/- The lesser of two by its value;the first things of a frozen row. -/
namespace Go.Sp
open Go.RowKit
section
variable {P : Program} {N : Nat} {E : Env} {D : List Deferred} {L : List HP}
variable {d : Option Nat} {ty : TypeId} {pos : String} {after : Array Edge} {g : Option (Nat × Bool)}
theorem JQ_minV {x y : Operand} {ts : Array TypeId} {m n r : Nat} (h : min m n = r) (hx : ev E x = some (.int .i64 (m : Int))) (hy : ev E y = some (.int .i64 (n : Int))) : JQ P N ⟨d,.call ⟨.builtin .min,#[x,y],ts⟩,ty,pos,after,g⟩ E D L (.int .i64 (r : Int)) := h ▸ JQ_minN hx hy
end
theorem vw_first {α : Type} {c : α → List Value} {sz : Nat} (hc : ∀ x,(c x).length = sz) (n : Nat) {l : List α} {p : Option Addr} {cap : Nat} (k : Part) (h : Vw sz (.slice p l.length cap) l.length (l.flatMap c) k) : Vw sz (.slice p (l.take n).length cap) (l.take n).length ((l.take n).flatMap c) k := by
  have h2 := vw_cut (m := (l.take n).length) (c := cap) (by rw [List.length_take];exact Nat.min_le_right _ _) k h
  have e : l.take (l.take n).length = l.take n := by rw [List.length_take,List.take_eq_take_iff];omega
  rw [flat_take hc,e] at h2
  exact h2
end Go.Sp
namespace Go.Sp
open Go.RowKit
section
variable {P : Program} {N : Nat} {E : Env} {D : List Deferred} {L : List HP}
variable {d : Option Nat} {ty : TypeId} {pos : String} {after : Array Edge} {g : Option (Nat × Bool)}
theorem JQ_front {t e : TypeId} [TU P t (.slice e)] {z : Value} {n k : Nat} [TI P e z n k] {x hi : Operand} {p : Option Addr} {len cap j : Nat} {ik : IntKind} (hx : ev E x = some (.slice p len cap)) (hh : ev E hi = some (.int ik (j : Int))) (hj : j ≤ cap) : JQ P N ⟨d,.slice t x none (some hi) none,ty,pos,after,g⟩ E D L (.slice p j cap) := fun F a hr w hs => by
  obtain ⟨i,h1,h2,h3,h4⟩ := TI.h (P := P) (t := e) (z := z) (n := n) (b := k)
  have h5 : (Instr.sliceAt t (.slice p len cap) none (some (.int ik (j : Int))) none).run P w = (Instr.slice t (.slice p len cap) none (some (.int ik (j : Int))) none).run P w := by simp [Instr.sliceAt,yM (TU.h (P := P) (t := t))]
  have h6 : (if cap = 0 then p else p.map (·.add (0 * i.size))) = p := by
    split
    · rfl
    · cases p with
      | none => rfl
      | some a => simp [Addr.add]
  simp [execOp,hr.eval hx,hr.eval hh,h5,Instr.slice,Instr.sliceBounds,yM (TU.h (P := P) (t := t)),run_sliceBound _ ik (j : Int) cap _ (by omega) (by omega),vK h1]
  simpa using h6
end
end Go.Sp
