/- Layer 3: what the laws use: what is left of a reader; a reader that is there, or not. -/
import Derived.Test.YtfelcdbhlahehaaDoorM8
import Derived.Test.YtfelcdbhlahehaaDoorM6
namespace Go.Proofs.YtfelcdbhlahehaaDoor
open Go Go.Sp
section
variable {N : Nat} {rd : Option Nat} {E : Env} {D : List Deferred} {L : List HP} {Q : Post}
theorem J_ptr {cd : Code} {v : Value} {c pl : Int} {bs : List UInt8} (h0 : c ≠ 0 → v = .pointer none → J Tryd.prog N rd cd E D L Q) (h1 : ∀ q, c = 0 → v = ptr q → J Tryd.prog N rd cd E D (RdB q bs pl :: L) Q) :
    J Tryd.prog N rd cd E D (PtR v c bs pl :: L) Q := fun F a w hr hs => by
  obtain ⟨k, ⟨a1, b1, c1, d1, e1, f1, g1⟩, m⟩ := hs.swap
  rcases f1 with ⟨h2, h3⟩ | ⟨h2, q, h3, h4⟩
  · exact h0 h2 h3 F a w hr ⟨k, g1.le e1, m⟩
  · exact h1 q h2 h3 F a w hr (Sat.swap ⟨k, ⟨a1, b1, c1, d1, e1, h4, g1⟩, m⟩)
theorem JL_ptr {all : Array Oper} {i : Nat} {rest : List Oper} {v : Value} {c pl : Int} {bs : List UInt8} (h0 : c ≠ 0 → v = .pointer none → JL Tryd.prog N rd all i rest E D L Q) (h1 : ∀ q, c = 0 → v = ptr q → JL Tryd.prog N rd all i rest E D (RdB q bs pl :: L) Q) :
    JL Tryd.prog N rd all i rest E D (PtR v c bs pl :: L) Q := fun F ac w hr hs hd => by
  obtain ⟨k, ⟨a1, b1, c1, d1, e1, f1, g1⟩, m⟩ := hs.swap
  rcases f1 with ⟨h2, h3⟩ | ⟨h2, q, h3, h4⟩
  · exact h0 h2 h3 F ac w hr ⟨k, g1.le e1, m⟩ hd
  · exact h1 q h2 h3 F ac w hr (Sat.swap ⟨k, ⟨a1, b1, c1, d1, e1, h4, g1⟩, m⟩) hd
end
attribute [local irreducible] callFunc Go.method J JL JO Ct JG JM JM1 JQ JQ0 JS CtD LeavesQ RdB Er by8 uA ibits smA PtR k1A
theorem rest_c (q : Nat) (bs : List UInt8) (pl : Int) (hpl : 0 ≤ pl ∧ pl + bs.length ≤ 1000000) : Ct Tryd.prog 20 #[ptr q] [RdB q bs pl] (RetV (.tuple #[str bs, .int .i64 pl]) []) := by
  have hp := place_B q bs pl
  have hl := left_B q bs pl
  have ht := take_E q bs pl (bs.length : Int) (by omega)
  have e1 : takeA bs pl (bs.length : Int) = (bs, 0, 0) := by unfold takeA; rw [if_neg (by omega), if_neg (by omega), Int.toNat_natCast, List.take_length]
  rw [e1] at ht
  refine fn_ret (vs := [_]) Tryd.func20 rfl Tryd.ntmps20 (by simp) ?_
  repeat (first | (first | refine J_region ?_ | refine JL_nil ?_ | refine J_seq ?_ | refine J_ret ?_) | (first | ((first | refine JL_step rfl ?_); first | refine JO_callE rfl ht rfl (fun v _ => ?_) | refine JO_move rfl rfl ?_ | refine JO_assign rfl rfl ?_ | refine JO_extract rfl rfl rfl ?_ | refine JO_callV' rfl (hp) rfl ?_ | refine JO_callV' rfl (hl) rfl ?_)))
  exact ret_twoV rfl rfl rfl Ent.sel
theorem told3_E (v : Value) (c a : Int) (te : TypeId) (fz : Nat × Nat) : Ct Tryd.prog 21 #[v, faultV c a] [Er v c a, Gl te fz] (RetV (.bool true) [Gl te fz]) := told_E v c a te fz
end Go.Proofs.YtfelcdbhlahehaaDoor
