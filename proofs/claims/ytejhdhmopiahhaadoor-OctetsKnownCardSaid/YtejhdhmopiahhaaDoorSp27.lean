/- The text of an owned row of bytes. -/
import Derived.Test.YtejhdhmopiahhaaDoorSp26
namespace Go.Sp
open Go.RowKit
section
variable {P : Program} {N : Nat} {E : Env} {D : List Deferred} {L M : List HP}
variable {d : Option Nat} {ty : TypeId} {pos : String} {after : Array Edge} {g : Option (Nat × Bool)}
theorem JQ_strO {src dst e : TypeId} [TU P src (.slice e)] [TU P e (.int .u8)] [TU P dst .string] {x : Operand} {bs : List UInt8} {v : Value} {e' sz n : Nat} {cs : List Value} (hx : ev E x = some v) [ho : TkO v L e' sz n cs M] (he : sz = 1) (hn : n = bs.length) (hc : cs = by8 bs) :
    JQ P N ⟨d, .convert src dst x, ty, pos, after, g⟩ E D L (str bs) := fun F a hr w hs => by
  subst he; subst hn; subst hc
  have hs1 : Sat w (OwnS e' 1 v bs.length (by8 bs) :: F :: M) := (hs.perm (ho.h.cons F)).swap
  have hrun : (convert src dst v).run P w = .ok (.string ⟨bs.toArray⟩) w := by
    obtain ⟨_, ⟨rfl, h0, _⟩ | ⟨b, sp, cap, rfl, _, _, _, h⟩⟩ := hs1.own_cases
    · have hb : bs = [] := List.eq_nil_of_length_eq_zero h0
      subst hb
      exact run_convert_bytes_nil (P := P) w src e TU.h TU.h 0 0 dst TU.h
    · refine run_convert_bytes_back w src dst e ⟨b, 0, none⟩ cap bs TU.h TU.h TU.h fun j hj => ?_
      rw [addr_add, Nat.zero_add]
      refine cell_of h.pt_heap ?_
      rw [List.getElem?_append_left (by rw [length_by8]; exact hj)]
      exact by8_get (List.getElem?_eq_getElem hj)
  simp [execOp, hr.eval hx, hrun]
end
end Go.Sp
