/- Layer 11: laying nodes. -/
import Derived.Test.YtickblndgihoeaaGreatDoorM8
import Derived.Test.YtickblndgihoeaaGreatDoorM9
set_option linter.unusedSimpArgs false
namespace Go.Proofs.YtickblndgihoeaaGreatDoor
open Go Go.Sp
structure Nod where
  kind : Int
  prio : Int
  ch : Bool
  pay : Int × Int
  next : List (Int × Int)
  a : SA
abbrev nodC (n : Nod) : List Value := [.int .i64 n.kind, .int .i64 n.prio, .bool n.ch, .int .i64 n.pay.1, .int .i64 n.pay.2, slc n.a n.next.length]
def payOk (n : Nod) : Bool := n.ch || (n.pay.1 == 0 && n.pay.2 == 0)
def oneO : List (Int × Int) → OB
  | [e] => edgeO e
  | _ => none
def nodeO (n : Nod) : OB :=
  if n.kind = 0 then catO (numO 0 5) (catO (mustO (decide (n.prio = 0))) (catO (mustO (payOk n)) (catO (mustO (!n.ch)) (mustO (decide ((n.next.length : Int) = 0))))))
  else if n.kind = 5 then catO (numO 5 5) (catO (mustO (decide (n.prio = 0))) (catO (mustO (payOk n)) (catO (mustO (!n.ch)) (oneO n.next))))
  else if n.kind = 1 ∨ n.kind = 2 then catO (numO n.kind 5) (catO (mustO (payOk n)) (catO (numO n.prio 1000) (catO (flagO n.ch) (catO (if n.ch then edgeO n.pay else some []) (oneO n.next)))))
  else if n.kind = 3 ∨ n.kind = 4 then catO (numO n.kind 5) (catO (mustO (payOk n)) (catO (numO n.prio 1000) (catO (mustO (!n.ch)) (listO 1 8 edgeO n.next))))
  else none
theorem flagO_len {b : Bool} {bs : List UInt8} (h : flagO b = some bs) : bs.length ≤ 10 := by cases h; simp
theorem one_of {l : List (Int × Int)} (h : decide ((l.length : Int) = 1) = true) : ∃ e, l = [e] := by
  have h := of_decide_eq_true h
  rcases l with _ | ⟨e, _ | ⟨e', l⟩⟩
  · simp at h
  · exact ⟨e, rfl⟩
  · simp only [List.length_cons] at h; omega
theorem oneO_no {l : List (Int × Int)} (h : decide ((l.length : Int) = 1) = false) : oneO l = none := by
  have h := of_decide_eq_false h
  rcases l with _ | ⟨e, _ | ⟨e', l⟩⟩
  · rfl
  · exact absurd rfl h
  · rfl
instance ftEdge : FT Tryz.prog 55 [(3, 0), (3, 1)] := FT.mk' (by kernel_rfl) (by kernel_rfl) (by kernel_rfl) (by kernel_rfl)
instance ftType : FT Tryz.prog 60 [(3, 0), (3, 1)] := FT.mk' (by kernel_rfl) (by kernel_rfl) (by kernel_rfl) (by kernel_rfl)
theorem edge_one (e : Int × Int) : ∀ v ∈ edgeC e, v.oneCell' = true := by simp [Value.oneCell']
theorem ct_emp {f : FuncId} {args : Array Value} {o : OB} {w : Nat} {pre : List UInt8} (h : Ct Tryz.prog f args [WrB w pre] (OutP o w pre [])) : Ct Tryz.prog f args [WrB w pre, Emp] (OutP o w pre [Emp]) :=
  Ct.post (h.frame [Emp]) fun e L'' ⟨L', h1, h2⟩ => by
    cases o with
    | none => exact ⟨[], Ent.nil, h1.1, rfl⟩
    | some bs => obtain ⟨he, hL⟩ := h1; subst hL h2; exact ⟨_, Ent.refl _, he, rfl⟩
attribute [local irreducible] callFunc Go.method J JL JO JR JR1 JRl Ct JG JM JM1 JW JW1 JQ JQ0 JS CtD LeavesQ WrB by8 numO Emp edgeO listO
section
variable (w : Nat) (pre : List UInt8) (prio : Int) (pay : Int × Int) (next : List (Int × Int)) (a : SA)
set_option maxHeartbeats 2000000 in
theorem node00_c (hpre : pre.length + (100 + costs (fun _ => 20) next) ≤ 880000) : Ct Tryz.prog 53 #[lay w, .agg (nodC ⟨0, prio, false, pay, next, a⟩).toArray] [WrB w pre, Vw 2 (slc a next.length) next.length (next.flatMap edgeC)] (OutP (nodeO ⟨0, prio, false, pay, next, a⟩) w pre [Vw 2 (slc a next.length) next.length (next.flatMap edgeC)]) := by
    refine fn_ret (vs := [lay w, .agg [.int .i64 0, .int .i64 prio, .bool false, .int .i64 pay.1, .int .i64 pay.2, slc a next.length].toArray]) Tryz.func53 rfl Tryz.ntmps53 (by simp) ?_
    have e0 : nodeO ⟨0, prio, false, pay, next, a⟩ = catO (numO 0 5) (catO (mustO (decide (prio = 0))) (catO (mustO (pay.1 == 0 && pay.2 == 0)) (catO (mustO true) (mustO (decide ((next.length : Int) = 0)))))) := by simp [nodeO, payOk]
    repeat (first | (first | refine J_region ?_ | refine JL_nil ?_ | refine J_seq ?_) | (first | ((first | refine JL_step rfl ?_); first | refine JO_loadA rfl (by simp) rfl ?_ | refine JO_field0 rfl rfl ?_ | refine JO_load rfl rfl ?_ | refine JO_boxA rfl rfl (fun r => ?_))))
    have c1 := num11_c w pre 0 5 (by (try simp only [List.length_append]); omega) (by decide)
    refine JL_step rfl (JO_callO rfl c1 rfl (fun b1 g1 => ?_) (fun g1 => outP_no (by rw [e0]; simp only [g1, mustO_t, mustO_f, catO_none, catO_none', catO_some, catO_nil, List.append_assoc, List.append_nil, List.nil_append])))
    have l1 := numO_len g1 (by decide)
    repeat (first | (first | refine J_region ?_ | refine JL_nil ?_ | refine J_seq ?_) | (first | ((first | refine JL_step rfl ?_ | refine JL_take rfl rfl ?_); first | refine JO_q (by simp) (JQ_neF rfl rfl (by omega)) rfl ?_ | refine JO_move rfl rfl ?_ | refine JO_assign rfl rfl ?_ | refine JO_field0 rfl rfl ?_ | refine JO_load rfl rfl ?_ | refine JO_pickF rfl rfl rfl ?_ | refine JO_eqI rfl rfl rfl ?_) | refine JL_pass rfl rfl rfl ?_))
    refine JL_step rfl (JO_must rfl (must11_c _) rfl (fun g2 => ?_) (fun g2 => outP_no (by rw [e0]; simp only [g1, g2, mustO_t, mustO_f, catO_none, catO_none', catO_some, catO_nil, List.append_assoc, List.append_nil, List.nil_append])))
    repeat (first | (first | refine J_region ?_ | refine JL_nil ?_ | refine J_seq ?_) | (first | ((first | refine JL_step rfl ?_ | refine JL_take rfl rfl ?_); first | refine JO_q (by simp) (JQ_eqAgg rfl rfl (eq_ii pay.1 pay.2 0 0 9998)) rfl ?_ | refine JO_build (cs := edgeC (0, 0)) rfl rfl rfl ?_ | refine JO_loadA rfl (by simp) rfl ?_ | refine JO_move rfl rfl ?_ | refine JO_field0 rfl rfl ?_ | refine JO_load rfl rfl ?_ | refine JO_pickF rfl rfl rfl ?_)))
    refine JL_step rfl (JO_must rfl (must11_c _) rfl (fun g3 => ?_) (fun g3 => outP_no (by rw [e0]; simp only [g1, g2, g3, mustO_t, mustO_f, catO_none, catO_none', catO_some, catO_nil, List.append_assoc, List.append_nil, List.nil_append])))
    repeat (first | (first | refine J_region ?_ | refine JL_nil ?_ | refine J_seq ?_ | refine J_block ?_ | refine J_skip ?_ | refine J_condF rfl ?_) | (first | ((first | refine JL_step rfl ?_); first | refine JO_q (by simp) (JQ_eqF rfl rfl (by omega)) rfl ?_ | refine JO_not rfl rfl ?_ | refine JO_move rfl rfl ?_ | refine JO_assign rfl rfl ?_ | refine JO_field0 rfl rfl ?_ | refine JO_load rfl rfl ?_ | refine JO_not rfl rfl ?_)))
    refine JL_step rfl (JO_must rfl (must11_c true) rfl (fun _ => ?_) (fun h => absurd h (by decide)))
    repeat (first | (first | refine J_region ?_ | refine JL_nil ?_ | refine J_seq ?_ | refine J_block ?_ | refine J_condT rfl ?_) | (first | ((first | refine JL_step rfl ?_); first | refine JO_q (by simp) (JQ_eqT rfl rfl (by omega)) rfl ?_ | refine JO_assign rfl rfl ?_ | refine JO_len rfl rfl ?_ | refine JO_field0 rfl rfl ?_ | refine JO_load rfl rfl ?_ | refine JO_eqI rfl rfl rfl ?_)))
    refine JL_step rfl (JO_must rfl (must11_c _) rfl (fun g4 => ?_) (fun g4 => outP_no (by rw [e0]; simp only [g1, g2, g3, g4, mustO_t, mustO_f, catO_none, catO_none', catO_some, catO_nil, List.append_assoc, List.append_nil, List.nil_append])))
    repeat (first | (first | refine JL_nil ?_) | (first | ((first | refine JL_step rfl ?_); first | refine JO_q (by simp) (JQ_lssT rfl rfl (by omega)) rfl ?_)))
    exact outP_end rfl (show nodeO _ = some (b1) by rw [e0]; simp only [g1, g2, g3, g4, mustO_t, mustO_f, catO_none, catO_none', catO_some, catO_nil, List.append_assoc, List.append_nil, List.nil_append]) (by simp) Ent.sel
set_option maxHeartbeats 2000000 in
theorem node01_c (hpre : pre.length + (100 + costs (fun _ => 20) next) ≤ 880000) : Ct Tryz.prog 53 #[lay w, .agg (nodC ⟨0, prio, true, pay, next, a⟩).toArray] [WrB w pre, Vw 2 (slc a next.length) next.length (next.flatMap edgeC)] (OutP (nodeO ⟨0, prio, true, pay, next, a⟩) w pre [Vw 2 (slc a next.length) next.length (next.flatMap edgeC)]) := by
    refine fn_ret (vs := [lay w, .agg [.int .i64 0, .int .i64 prio, .bool true, .int .i64 pay.1, .int .i64 pay.2, slc a next.length].toArray]) Tryz.func53 rfl Tryz.ntmps53 (by simp) ?_
    have e0 : nodeO ⟨0, prio, true, pay, next, a⟩ = catO (numO 0 5) (catO (mustO (decide (prio = 0))) (catO (mustO true) (catO (mustO false) (mustO (decide ((next.length : Int) = 0)))))) := by simp [nodeO, payOk]
    repeat (first | (first | refine J_region ?_ | refine JL_nil ?_ | refine J_seq ?_) | (first | ((first | refine JL_step rfl ?_); first | refine JO_loadA rfl (by simp) rfl ?_ | refine JO_field0 rfl rfl ?_ | refine JO_load rfl rfl ?_ | refine JO_boxA rfl rfl (fun r => ?_))))
    have c1 := num11_c w pre 0 5 (by (try simp only [List.length_append]); omega) (by decide)
    refine JL_step rfl (JO_callO rfl c1 rfl (fun b1 g1 => ?_) (fun g1 => outP_no (by rw [e0]; simp only [g1, mustO_t, mustO_f, catO_none, catO_none', catO_some, catO_nil, List.append_assoc, List.append_nil, List.nil_append])))
    have l1 := numO_len g1 (by decide)
    repeat (first | (first | refine J_region ?_ | refine JL_nil ?_ | refine J_seq ?_) | (first | ((first | refine JL_step rfl ?_ | refine JL_take rfl rfl ?_); first | refine JO_q (by simp) (JQ_neF rfl rfl (by omega)) rfl ?_ | refine JO_move rfl rfl ?_ | refine JO_assign rfl rfl ?_ | refine JO_field0 rfl rfl ?_ | refine JO_load rfl rfl ?_ | refine JO_pickF rfl rfl rfl ?_ | refine JO_eqI rfl rfl rfl ?_) | refine JL_pass rfl rfl rfl ?_))
    refine JL_step rfl (JO_must rfl (must11_c _) rfl (fun g2 => ?_) (fun g2 => outP_no (by rw [e0]; simp only [g1, g2, mustO_t, mustO_f, catO_none, catO_none', catO_some, catO_nil, List.append_assoc, List.append_nil, List.nil_append])))
    repeat (first | (first | refine J_region ?_ | refine JL_nil ?_ | refine J_seq ?_) | (first | ((first | refine JL_step rfl ?_); first | refine JO_move rfl rfl ?_ | refine JO_field0 rfl rfl ?_ | refine JO_load rfl rfl ?_ | refine JO_pickT rfl rfl rfl ?_) | refine JL_pass rfl rfl rfl ?_))
    refine JL_step rfl (JO_must rfl (must11_c true) rfl (fun _ => ?_) (fun h => absurd h (by decide)))
    repeat (first | (first | refine J_region ?_ | refine JL_nil ?_ | refine J_seq ?_ | refine J_block ?_ | refine J_skip ?_ | refine J_condF rfl ?_) | (first | ((first | refine JL_step rfl ?_); first | refine JO_q (by simp) (JQ_eqF rfl rfl (by omega)) rfl ?_ | refine JO_not rfl rfl ?_ | refine JO_move rfl rfl ?_ | refine JO_assign rfl rfl ?_ | refine JO_field0 rfl rfl ?_ | refine JO_load rfl rfl ?_ | refine JO_not rfl rfl ?_)))
    refine JL_step rfl (JO_must rfl (must11_c false) rfl (fun h => absurd h (by decide)) (fun _ => outP_no (by rw [e0]; simp only [g1, g2, mustO_t, mustO_f, catO_none, catO_none', catO_some, catO_nil, List.append_assoc, List.append_nil, List.nil_append])))
set_option maxHeartbeats 2000000 in
theorem node10_c (hpre : pre.length + (100 + costs (fun _ => 20) next) ≤ 880000) : Ct Tryz.prog 53 #[lay w, .agg (nodC ⟨1, prio, false, pay, next, a⟩).toArray] [WrB w pre, Vw 2 (slc a next.length) next.length (next.flatMap edgeC)] (OutP (nodeO ⟨1, prio, false, pay, next, a⟩) w pre [Vw 2 (slc a next.length) next.length (next.flatMap edgeC)]) := by
    refine fn_ret (vs := [lay w, .agg [.int .i64 1, .int .i64 prio, .bool false, .int .i64 pay.1, .int .i64 pay.2, slc a next.length].toArray]) Tryz.func53 rfl Tryz.ntmps53 (by simp) ?_
    have e0 : nodeO ⟨1, prio, false, pay, next, a⟩ = catO (numO 1 5) (catO (mustO (pay.1 == 0 && pay.2 == 0)) (catO (numO prio 1000) (catO (flagO false) (catO (some []) (oneO next))))) := by simp [nodeO, payOk]
    repeat (first | (first | refine J_region ?_ | refine JL_nil ?_ | refine J_seq ?_) | (first | ((first | refine JL_step rfl ?_); first | refine JO_loadA rfl (by simp) rfl ?_ | refine JO_field0 rfl rfl ?_ | refine JO_load rfl rfl ?_ | refine JO_boxA rfl rfl (fun r => ?_))))
    have c1 := num11_c w pre 1 5 (by (try simp only [List.length_append]); omega) (by decide)
    refine JL_step rfl (JO_callO rfl c1 rfl (fun b1 g1 => ?_) (fun g1 => outP_no (by rw [e0]; simp only [g1, mustO_t, mustO_f, catO_none, catO_none', catO_some, catO_nil, List.append_assoc, List.append_nil, List.nil_append])))
    have l1 := numO_len g1 (by decide)
    repeat (first | (first | refine J_region ?_ | refine JL_nil ?_ | refine J_seq ?_) | (first | ((first | refine JL_step rfl ?_ | refine JL_take rfl rfl ?_); first | refine JO_q (by simp) (JQ_neT rfl rfl (by omega)) rfl ?_ | refine JO_move rfl rfl ?_ | refine JO_assign rfl rfl ?_ | refine JO_field0 rfl rfl ?_ | refine JO_load rfl rfl ?_ | refine JO_pickT rfl rfl rfl ?_) | refine JL_pass rfl rfl rfl ?_))
    refine JL_step rfl (JO_must rfl (must11_c true) rfl (fun _ => ?_) (fun h => absurd h (by decide)))
    repeat (first | (first | refine J_region ?_ | refine JL_nil ?_ | refine J_seq ?_) | (first | ((first | refine JL_step rfl ?_ | refine JL_take rfl rfl ?_); first | refine JO_q (by simp) (JQ_eqAgg rfl rfl (eq_ii pay.1 pay.2 0 0 9998)) rfl ?_ | refine JO_build (cs := edgeC (0, 0)) rfl rfl rfl ?_ | refine JO_loadA rfl (by simp) rfl ?_ | refine JO_move rfl rfl ?_ | refine JO_field0 rfl rfl ?_ | refine JO_load rfl rfl ?_ | refine JO_pickF rfl rfl rfl ?_)))
    refine JL_step rfl (JO_must rfl (must11_c _) rfl (fun g2 => ?_) (fun g2 => outP_no (by rw [e0]; simp only [g1, g2, mustO_t, mustO_f, catO_none, catO_none', catO_some, catO_nil, List.append_assoc, List.append_nil, List.nil_append])))
    repeat (first | (first | refine J_region ?_ | refine JL_nil ?_ | refine J_seq ?_ | refine J_condT rfl ?_) | (first | ((first | refine JL_step rfl ?_); first | refine JO_loadA rfl (by simp) rfl ?_ | refine JO_move rfl rfl ?_ | refine JO_field0 rfl rfl ?_ | refine JO_load rfl rfl ?_)))
    have c3 := num11_c w (pre ++ b1) prio 1000 (by (try simp only [List.length_append]); omega) (by decide)
    refine JL_step rfl (JO_callO rfl c3 rfl (fun b3 g3 => ?_) (fun g3 => outP_no (by rw [e0]; simp only [g1, g2, g3, mustO_t, mustO_f, catO_none, catO_none', catO_some, catO_nil, List.append_assoc, List.append_nil, List.nil_append])))
    have l3 := numO_len g3 (by decide)
    repeat (first | (first | refine J_region ?_ | refine JL_nil ?_ | refine J_seq ?_ | refine J_block ?_ | refine J_skip ?_ | refine J_condT rfl ?_) | (first | ((first | refine JL_step rfl ?_); first | refine JO_q (by simp) (JQ_eqT rfl rfl (by omega)) rfl ?_ | refine JO_loadA rfl (by simp) rfl ?_ | refine JO_assign rfl rfl ?_ | refine JO_field0 rfl rfl ?_ | refine JO_load rfl rfl ?_)))
    have c4 := flag11_c w ((pre ++ b1) ++ b3) false (by (try simp only [List.length_append]); omega)
    refine JL_step rfl (JO_callO rfl c4 rfl (fun b4 g4 => ?_) (fun g4 => outP_no (by rw [e0]; simp only [g1, g2, g3, g4, mustO_t, mustO_f, catO_none, catO_none', catO_some, catO_nil, List.append_assoc, List.append_nil, List.nil_append])))
    have l4 := flagO_len g4
    repeat (first | (first | refine J_region ?_ | refine JL_nil ?_ | refine J_seq ?_ | refine J_block ?_ | refine J_skip ?_ | refine J_condF rfl ?_) | (first | ((first | refine JL_step rfl ?_); first | refine JO_q (by simp) (JQ_eqF rfl rfl (by omega)) rfl ?_ | refine JO_assign rfl rfl ?_ | refine JO_len rfl rfl ?_ | refine JO_field0 rfl rfl ?_ | refine JO_load rfl rfl ?_ | refine JO_eqI rfl rfl rfl ?_)))
    refine JL_step rfl (JO_must rfl (must11_c _) rfl (fun g5 => ?_) (fun g5 => outP_no (by rw [e0, oneO_no g5]; simp only [g1, g2, g3, g4, mustO_t, mustO_f, catO_none, catO_none', catO_some, catO_nil, List.append_assoc, List.append_nil, List.nil_append])))
    obtain ⟨e, rfl⟩ := one_of g5
    repeat (first | (first | refine JL_nil ?_) | (first | ((first | refine JL_step rfl ?_); first | refine JO_q (by simp) (JQ_lssT rfl rfl (by omega)) rfl ?_)))
    refine J_front (Vw 2 (slc a 1) 1 ([e].flatMap edgeC)) ?_
    refine J_fact (φ := ∃ b o, a.1 = some ⟨b, o, none⟩) (fun F w hs => hs.tail.out (fun k hk => vw_place (by decide) k hk)) (fun hp => ?_)
    obtain ⟨a1, a2⟩ := a
    dsimp only at hp
    obtain ⟨b, o, rfl⟩ := hp
    rw [show oneO [e] = edgeO e from rfl] at e0
    have c6 := edge11_c w (((pre ++ b1) ++ b3) ++ b4) e (by (try simp only [List.length_append]); omega)
    repeat' (first | refine J_regionD ?_ | refine JA_end rfl ?_ | refine JA_step rfl ?_ | exact jal_nil | refine jal_no rfl ?_ | refine jal_yes rfl ?_ ?_ | (first | ((first | refine JA_op rfl rfl ?_); first | refine JO_field0 rfl rfl ?_ | refine JO_load rfl rfl ?_ | refine JO_loadW rfl (by rfl) rfl ?_ | refine JO_index (j := 0) rfl rfl (by simp) rfl ?_ | refine JO_loadAL (edgeC e) rfl (fun i u hu => lds_vwA (n := 1) (cap := a2) (j := 0) (by decide) (by simpa using hu)) rfl rfl ?_ | refine JO_callO rfl c6 rfl (fun b6 g6 => ?_) (fun g6 => outP_no (by rw [e0]; simp only [g1, g2, g3, g4, g6, mustO_t, mustO_f, catO_none, catO_none', catO_some, catO_nil, List.append_assoc, List.append_nil, List.nil_append])))))
    all_goals exact outP_end rfl (show nodeO _ = some (b1 ++ (b3 ++ (b4 ++ (b6)))) by rw [e0]; simp only [g1, g2, g3, g4, g6, mustO_t, mustO_f, catO_none, catO_none', catO_some, catO_nil, List.append_assoc, List.append_nil, List.nil_append]) (by simp) Ent.sel
set_option maxHeartbeats 2000000 in
theorem node11_c' (hpre : pre.length + (100 + costs (fun _ => 20) next) ≤ 880000) : Ct Tryz.prog 53 #[lay w, .agg (nodC ⟨1, prio, true, pay, next, a⟩).toArray] [WrB w pre, Vw 2 (slc a next.length) next.length (next.flatMap edgeC)] (OutP (nodeO ⟨1, prio, true, pay, next, a⟩) w pre [Vw 2 (slc a next.length) next.length (next.flatMap edgeC)]) := by
    refine fn_ret (vs := [lay w, .agg [.int .i64 1, .int .i64 prio, .bool true, .int .i64 pay.1, .int .i64 pay.2, slc a next.length].toArray]) Tryz.func53 rfl Tryz.ntmps53 (by simp) ?_
    have e0 : nodeO ⟨1, prio, true, pay, next, a⟩ = catO (numO 1 5) (catO (mustO true) (catO (numO prio 1000) (catO (flagO true) (catO (edgeO pay) (oneO next))))) := by simp [nodeO, payOk]
    repeat (first | (first | refine J_region ?_ | refine JL_nil ?_ | refine J_seq ?_) | (first | ((first | refine JL_step rfl ?_); first | refine JO_loadA rfl (by simp) rfl ?_ | refine JO_field0 rfl rfl ?_ | refine JO_load rfl rfl ?_ | refine JO_boxA rfl rfl (fun r => ?_))))
    have c1 := num11_c w pre 1 5 (by (try simp only [List.length_append]); omega) (by decide)
    refine JL_step rfl (JO_callO rfl c1 rfl (fun b1 g1 => ?_) (fun g1 => outP_no (by rw [e0]; simp only [g1, mustO_t, mustO_f, catO_none, catO_none', catO_some, catO_nil, List.append_assoc, List.append_nil, List.nil_append])))
    have l1 := numO_len g1 (by decide)
    repeat (first | (first | refine J_region ?_ | refine JL_nil ?_ | refine J_seq ?_) | (first | ((first | refine JL_step rfl ?_ | refine JL_take rfl rfl ?_); first | refine JO_q (by simp) (JQ_neT rfl rfl (by omega)) rfl ?_ | refine JO_move rfl rfl ?_ | refine JO_assign rfl rfl ?_ | refine JO_field0 rfl rfl ?_ | refine JO_load rfl rfl ?_ | refine JO_pickT rfl rfl rfl ?_) | refine JL_pass rfl rfl rfl ?_))
    refine JL_step rfl (JO_must rfl (must11_c true) rfl (fun _ => ?_) (fun h => absurd h (by decide)))
    repeat (first | (first | refine J_region ?_ | refine JL_nil ?_ | refine J_seq ?_) | (first | ((first | refine JL_step rfl ?_); first | refine JO_move rfl rfl ?_ | refine JO_field0 rfl rfl ?_ | refine JO_load rfl rfl ?_ | refine JO_pickT rfl rfl rfl ?_) | refine JL_pass rfl rfl rfl ?_))
    refine JL_step rfl (JO_must rfl (must11_c true) rfl (fun _ => ?_) (fun h => absurd h (by decide)))
    repeat (first | (first | refine J_region ?_ | refine JL_nil ?_ | refine J_seq ?_ | refine J_condT rfl ?_) | (first | ((first | refine JL_step rfl ?_); first | refine JO_loadA rfl (by simp) rfl ?_ | refine JO_move rfl rfl ?_ | refine JO_field0 rfl rfl ?_ | refine JO_load rfl rfl ?_)))
    have c2 := num11_c w (pre ++ b1) prio 1000 (by (try simp only [List.length_append]); omega) (by decide)
    refine JL_step rfl (JO_callO rfl c2 rfl (fun b2 g2 => ?_) (fun g2 => outP_no (by rw [e0]; simp only [g1, g2, mustO_t, mustO_f, catO_none, catO_none', catO_some, catO_nil, List.append_assoc, List.append_nil, List.nil_append])))
    have l2 := numO_len g2 (by decide)
    repeat (first | (first | refine J_region ?_ | refine JL_nil ?_ | refine J_seq ?_ | refine J_block ?_ | refine J_skip ?_ | refine J_condT rfl ?_) | (first | ((first | refine JL_step rfl ?_); first | refine JO_q (by simp) (JQ_eqT rfl rfl (by omega)) rfl ?_ | refine JO_loadA rfl (by simp) rfl ?_ | refine JO_assign rfl rfl ?_ | refine JO_field0 rfl rfl ?_ | refine JO_load rfl rfl ?_)))
    have c3 := flag11_c w ((pre ++ b1) ++ b2) true (by (try simp only [List.length_append]); omega)
    refine JL_step rfl (JO_callO rfl c3 rfl (fun b3 g3 => ?_) (fun g3 => outP_no (by rw [e0]; simp only [g1, g2, g3, mustO_t, mustO_f, catO_none, catO_none', catO_some, catO_nil, List.append_assoc, List.append_nil, List.nil_append])))
    have l3 := flagO_len g3
    repeat (first | (first | refine J_region ?_ | refine JL_nil ?_ | refine J_seq ?_ | refine J_condT rfl ?_) | (first | ((first | refine JL_step rfl ?_); first | refine JO_loadA rfl (by simp) rfl ?_ | refine JO_field0 rfl rfl ?_ | refine JO_load rfl rfl ?_)))
    have c4 := edge11_c w (((pre ++ b1) ++ b2) ++ b3) pay (by (try simp only [List.length_append]); omega)
    refine JL_step rfl (JO_callO rfl c4 rfl (fun b4 g4 => ?_) (fun g4 => outP_no (by rw [e0]; simp only [g1, g2, g3, g4, mustO_t, mustO_f, catO_none, catO_none', catO_some, catO_nil, List.append_assoc, List.append_nil, List.nil_append])))
    have l4 := edgeO_len g4
    repeat (first | (first | refine J_region ?_ | refine JL_nil ?_ | refine J_seq ?_ | refine J_block ?_ | refine J_condF rfl ?_) | (first | ((first | refine JL_step rfl ?_); first | refine JO_q (by simp) (JQ_eqF rfl rfl (by omega)) rfl ?_ | refine JO_assign rfl rfl ?_ | refine JO_len rfl rfl ?_ | refine JO_field0 rfl rfl ?_ | refine JO_load rfl rfl ?_ | refine JO_eqI rfl rfl rfl ?_)))
    refine JL_step rfl (JO_must rfl (must11_c _) rfl (fun g5 => ?_) (fun g5 => outP_no (by rw [e0, oneO_no g5]; simp only [g1, g2, g3, g4, mustO_t, mustO_f, catO_none, catO_none', catO_some, catO_nil, List.append_assoc, List.append_nil, List.nil_append])))
    obtain ⟨e, rfl⟩ := one_of g5
    repeat (first | (first | refine JL_nil ?_) | (first | ((first | refine JL_step rfl ?_); first | refine JO_q (by simp) (JQ_lssT rfl rfl (by omega)) rfl ?_)))
    refine J_front (Vw 2 (slc a 1) 1 ([e].flatMap edgeC)) ?_
    refine J_fact (φ := ∃ b o, a.1 = some ⟨b, o, none⟩) (fun F w hs => hs.tail.out (fun k hk => vw_place (by decide) k hk)) (fun hp => ?_)
    obtain ⟨a1, a2⟩ := a
    dsimp only at hp
    obtain ⟨b, o, rfl⟩ := hp
    rw [show oneO [e] = edgeO e from rfl] at e0
    have c6 := edge11_c w ((((pre ++ b1) ++ b2) ++ b3) ++ b4) e (by (try simp only [List.length_append]); omega)
    repeat' (first | refine J_regionD ?_ | refine JA_end rfl ?_ | refine JA_step rfl ?_ | exact jal_nil | refine jal_no rfl ?_ | refine jal_yes rfl ?_ ?_ | (first | ((first | refine JA_op rfl rfl ?_); first | refine JO_field0 rfl rfl ?_ | refine JO_load rfl rfl ?_ | refine JO_loadW rfl (by rfl) rfl ?_ | refine JO_index (j := 0) rfl rfl (by simp) rfl ?_ | refine JO_loadAL (edgeC e) rfl (fun i u hu => lds_vwA (n := 1) (cap := a2) (j := 0) (by decide) (by simpa using hu)) rfl rfl ?_ | refine JO_callO rfl c6 rfl (fun b6 g6 => ?_) (fun g6 => outP_no (by rw [e0]; simp only [g1, g2, g3, g4, g6, mustO_t, mustO_f, catO_none, catO_none', catO_some, catO_nil, List.append_assoc, List.append_nil, List.nil_append])))))
    all_goals exact outP_end rfl (show nodeO _ = some (b1 ++ (b2 ++ (b3 ++ (b4 ++ (b6))))) by rw [e0]; simp only [g1, g2, g3, g4, g6, mustO_t, mustO_f, catO_none, catO_none', catO_some, catO_nil, List.append_assoc, List.append_nil, List.nil_append]) (by simp) Ent.sel
set_option maxHeartbeats 2000000 in
theorem node20_c (hpre : pre.length + (100 + costs (fun _ => 20) next) ≤ 880000) : Ct Tryz.prog 53 #[lay w, .agg (nodC ⟨2, prio, false, pay, next, a⟩).toArray] [WrB w pre, Vw 2 (slc a next.length) next.length (next.flatMap edgeC)] (OutP (nodeO ⟨2, prio, false, pay, next, a⟩) w pre [Vw 2 (slc a next.length) next.length (next.flatMap edgeC)]) := by
    refine fn_ret (vs := [lay w, .agg [.int .i64 2, .int .i64 prio, .bool false, .int .i64 pay.1, .int .i64 pay.2, slc a next.length].toArray]) Tryz.func53 rfl Tryz.ntmps53 (by simp) ?_
    have e0 : nodeO ⟨2, prio, false, pay, next, a⟩ = catO (numO 2 5) (catO (mustO (pay.1 == 0 && pay.2 == 0)) (catO (numO prio 1000) (catO (flagO false) (catO (some []) (oneO next))))) := by simp [nodeO, payOk]
    repeat (first | (first | refine J_region ?_ | refine JL_nil ?_ | refine J_seq ?_) | (first | ((first | refine JL_step rfl ?_); first | refine JO_loadA rfl (by simp) rfl ?_ | refine JO_field0 rfl rfl ?_ | refine JO_load rfl rfl ?_ | refine JO_boxA rfl rfl (fun r => ?_))))
    have c1 := num11_c w pre 2 5 (by (try simp only [List.length_append]); omega) (by decide)
    refine JL_step rfl (JO_callO rfl c1 rfl (fun b1 g1 => ?_) (fun g1 => outP_no (by rw [e0]; simp only [g1, mustO_t, mustO_f, catO_none, catO_none', catO_some, catO_nil, List.append_assoc, List.append_nil, List.nil_append])))
    have l1 := numO_len g1 (by decide)
    repeat (first | (first | refine J_region ?_ | refine JL_nil ?_ | refine J_seq ?_) | (first | ((first | refine JL_step rfl ?_ | refine JL_take rfl rfl ?_); first | refine JO_q (by simp) (JQ_neT rfl rfl (by omega)) rfl ?_ | refine JO_move rfl rfl ?_ | refine JO_assign rfl rfl ?_ | refine JO_field0 rfl rfl ?_ | refine JO_load rfl rfl ?_ | refine JO_pickT rfl rfl rfl ?_) | refine JL_pass rfl rfl rfl ?_))
    refine JL_step rfl (JO_must rfl (must11_c true) rfl (fun _ => ?_) (fun h => absurd h (by decide)))
    repeat (first | (first | refine J_region ?_ | refine JL_nil ?_ | refine J_seq ?_) | (first | ((first | refine JL_step rfl ?_ | refine JL_take rfl rfl ?_); first | refine JO_q (by simp) (JQ_eqAgg rfl rfl (eq_ii pay.1 pay.2 0 0 9998)) rfl ?_ | refine JO_build (cs := edgeC (0, 0)) rfl rfl rfl ?_ | refine JO_loadA rfl (by simp) rfl ?_ | refine JO_move rfl rfl ?_ | refine JO_field0 rfl rfl ?_ | refine JO_load rfl rfl ?_ | refine JO_pickF rfl rfl rfl ?_)))
    refine JL_step rfl (JO_must rfl (must11_c _) rfl (fun g2 => ?_) (fun g2 => outP_no (by rw [e0]; simp only [g1, g2, mustO_t, mustO_f, catO_none, catO_none', catO_some, catO_nil, List.append_assoc, List.append_nil, List.nil_append])))
    repeat (first | (first | refine J_region ?_ | refine JL_nil ?_ | refine J_seq ?_ | refine J_condT rfl ?_) | (first | ((first | refine JL_step rfl ?_); first | refine JO_loadA rfl (by simp) rfl ?_ | refine JO_move rfl rfl ?_ | refine JO_field0 rfl rfl ?_ | refine JO_load rfl rfl ?_)))
    have c3 := num11_c w (pre ++ b1) prio 1000 (by (try simp only [List.length_append]); omega) (by decide)
    refine JL_step rfl (JO_callO rfl c3 rfl (fun b3 g3 => ?_) (fun g3 => outP_no (by rw [e0]; simp only [g1, g2, g3, mustO_t, mustO_f, catO_none, catO_none', catO_some, catO_nil, List.append_assoc, List.append_nil, List.nil_append])))
    have l3 := numO_len g3 (by decide)
    repeat (first | (first | refine J_region ?_ | refine JL_nil ?_ | refine J_seq ?_ | refine J_block ?_ | refine J_condT rfl ?_ | refine J_condF rfl ?_) | (first | ((first | refine JL_step rfl ?_); first | refine JO_q (by simp) (JQ_eqT rfl rfl (by omega)) rfl ?_ | refine JO_q (by simp) (JQ_eqF rfl rfl (by omega)) rfl ?_ | refine JO_loadA rfl (by simp) rfl ?_ | refine JO_assign rfl rfl ?_ | refine JO_field0 rfl rfl ?_ | refine JO_load rfl rfl ?_)))
    have c4 := flag11_c w ((pre ++ b1) ++ b3) false (by (try simp only [List.length_append]); omega)
    refine JL_step rfl (JO_callO rfl c4 rfl (fun b4 g4 => ?_) (fun g4 => outP_no (by rw [e0]; simp only [g1, g2, g3, g4, mustO_t, mustO_f, catO_none, catO_none', catO_some, catO_nil, List.append_assoc, List.append_nil, List.nil_append])))
    have l4 := flagO_len g4
    repeat (first | (first | refine J_region ?_ | refine JL_nil ?_ | refine J_seq ?_ | refine J_block ?_ | refine J_skip ?_ | refine J_condF rfl ?_) | (first | ((first | refine JL_step rfl ?_); first | refine JO_q (by simp) (JQ_eqF rfl rfl (by omega)) rfl ?_ | refine JO_assign rfl rfl ?_ | refine JO_len rfl rfl ?_ | refine JO_field0 rfl rfl ?_ | refine JO_load rfl rfl ?_ | refine JO_eqI rfl rfl rfl ?_)))
    refine JL_step rfl (JO_must rfl (must11_c _) rfl (fun g5 => ?_) (fun g5 => outP_no (by rw [e0, oneO_no g5]; simp only [g1, g2, g3, g4, mustO_t, mustO_f, catO_none, catO_none', catO_some, catO_nil, List.append_assoc, List.append_nil, List.nil_append])))
    obtain ⟨e, rfl⟩ := one_of g5
    repeat (first | (first | refine JL_nil ?_) | (first | ((first | refine JL_step rfl ?_); first | refine JO_q (by simp) (JQ_lssT rfl rfl (by omega)) rfl ?_)))
    refine J_front (Vw 2 (slc a 1) 1 ([e].flatMap edgeC)) ?_
    refine J_fact (φ := ∃ b o, a.1 = some ⟨b, o, none⟩) (fun F w hs => hs.tail.out (fun k hk => vw_place (by decide) k hk)) (fun hp => ?_)
    obtain ⟨a1, a2⟩ := a
    dsimp only at hp
    obtain ⟨b, o, rfl⟩ := hp
    rw [show oneO [e] = edgeO e from rfl] at e0
    have c6 := edge11_c w (((pre ++ b1) ++ b3) ++ b4) e (by (try simp only [List.length_append]); omega)
    repeat' (first | refine J_regionD ?_ | refine JA_end rfl ?_ | refine JA_step rfl ?_ | exact jal_nil | refine jal_no rfl ?_ | refine jal_yes rfl ?_ ?_ | (first | ((first | refine JA_op rfl rfl ?_); first | refine JO_field0 rfl rfl ?_ | refine JO_load rfl rfl ?_ | refine JO_loadW rfl (by rfl) rfl ?_ | refine JO_index (j := 0) rfl rfl (by simp) rfl ?_ | refine JO_loadAL (edgeC e) rfl (fun i u hu => lds_vwA (n := 1) (cap := a2) (j := 0) (by decide) (by simpa using hu)) rfl rfl ?_ | refine JO_callO rfl c6 rfl (fun b6 g6 => ?_) (fun g6 => outP_no (by rw [e0]; simp only [g1, g2, g3, g4, g6, mustO_t, mustO_f, catO_none, catO_none', catO_some, catO_nil, List.append_assoc, List.append_nil, List.nil_append])))))
    all_goals exact outP_end rfl (show nodeO _ = some (b1 ++ (b3 ++ (b4 ++ (b6)))) by rw [e0]; simp only [g1, g2, g3, g4, g6, mustO_t, mustO_f, catO_none, catO_none', catO_some, catO_nil, List.append_assoc, List.append_nil, List.nil_append]) (by simp) Ent.sel
set_option maxHeartbeats 2000000 in
theorem node21_c (hpre : pre.length + (100 + costs (fun _ => 20) next) ≤ 880000) : Ct Tryz.prog 53 #[lay w, .agg (nodC ⟨2, prio, true, pay, next, a⟩).toArray] [WrB w pre, Vw 2 (slc a next.length) next.length (next.flatMap edgeC)] (OutP (nodeO ⟨2, prio, true, pay, next, a⟩) w pre [Vw 2 (slc a next.length) next.length (next.flatMap edgeC)]) := by
    refine fn_ret (vs := [lay w, .agg [.int .i64 2, .int .i64 prio, .bool true, .int .i64 pay.1, .int .i64 pay.2, slc a next.length].toArray]) Tryz.func53 rfl Tryz.ntmps53 (by simp) ?_
    have e0 : nodeO ⟨2, prio, true, pay, next, a⟩ = catO (numO 2 5) (catO (mustO true) (catO (numO prio 1000) (catO (flagO true) (catO (edgeO pay) (oneO next))))) := by simp [nodeO, payOk]
    repeat (first | (first | refine J_region ?_ | refine JL_nil ?_ | refine J_seq ?_) | (first | ((first | refine JL_step rfl ?_); first | refine JO_loadA rfl (by simp) rfl ?_ | refine JO_field0 rfl rfl ?_ | refine JO_load rfl rfl ?_ | refine JO_boxA rfl rfl (fun r => ?_))))
    have c1 := num11_c w pre 2 5 (by (try simp only [List.length_append]); omega) (by decide)
    refine JL_step rfl (JO_callO rfl c1 rfl (fun b1 g1 => ?_) (fun g1 => outP_no (by rw [e0]; simp only [g1, mustO_t, mustO_f, catO_none, catO_none', catO_some, catO_nil, List.append_assoc, List.append_nil, List.nil_append])))
    have l1 := numO_len g1 (by decide)
    repeat (first | (first | refine J_region ?_ | refine JL_nil ?_ | refine J_seq ?_) | (first | ((first | refine JL_step rfl ?_ | refine JL_take rfl rfl ?_); first | refine JO_q (by simp) (JQ_neT rfl rfl (by omega)) rfl ?_ | refine JO_move rfl rfl ?_ | refine JO_assign rfl rfl ?_ | refine JO_field0 rfl rfl ?_ | refine JO_load rfl rfl ?_ | refine JO_pickT rfl rfl rfl ?_) | refine JL_pass rfl rfl rfl ?_))
    refine JL_step rfl (JO_must rfl (must11_c true) rfl (fun _ => ?_) (fun h => absurd h (by decide)))
    repeat (first | (first | refine J_region ?_ | refine JL_nil ?_ | refine J_seq ?_) | (first | ((first | refine JL_step rfl ?_); first | refine JO_move rfl rfl ?_ | refine JO_field0 rfl rfl ?_ | refine JO_load rfl rfl ?_ | refine JO_pickT rfl rfl rfl ?_) | refine JL_pass rfl rfl rfl ?_))
    refine JL_step rfl (JO_must rfl (must11_c true) rfl (fun _ => ?_) (fun h => absurd h (by decide)))
    repeat (first | (first | refine J_region ?_ | refine JL_nil ?_ | refine J_seq ?_ | refine J_condT rfl ?_) | (first | ((first | refine JL_step rfl ?_); first | refine JO_loadA rfl (by simp) rfl ?_ | refine JO_move rfl rfl ?_ | refine JO_field0 rfl rfl ?_ | refine JO_load rfl rfl ?_)))
    have c2 := num11_c w (pre ++ b1) prio 1000 (by (try simp only [List.length_append]); omega) (by decide)
    refine JL_step rfl (JO_callO rfl c2 rfl (fun b2 g2 => ?_) (fun g2 => outP_no (by rw [e0]; simp only [g1, g2, mustO_t, mustO_f, catO_none, catO_none', catO_some, catO_nil, List.append_assoc, List.append_nil, List.nil_append])))
    have l2 := numO_len g2 (by decide)
    repeat (first | (first | refine J_region ?_ | refine JL_nil ?_ | refine J_seq ?_ | refine J_block ?_ | refine J_condT rfl ?_ | refine J_condF rfl ?_) | (first | ((first | refine JL_step rfl ?_); first | refine JO_q (by simp) (JQ_eqT rfl rfl (by omega)) rfl ?_ | refine JO_q (by simp) (JQ_eqF rfl rfl (by omega)) rfl ?_ | refine JO_loadA rfl (by simp) rfl ?_ | refine JO_assign rfl rfl ?_ | refine JO_field0 rfl rfl ?_ | refine JO_load rfl rfl ?_)))
    have c3 := flag11_c w ((pre ++ b1) ++ b2) true (by (try simp only [List.length_append]); omega)
    refine JL_step rfl (JO_callO rfl c3 rfl (fun b3 g3 => ?_) (fun g3 => outP_no (by rw [e0]; simp only [g1, g2, g3, mustO_t, mustO_f, catO_none, catO_none', catO_some, catO_nil, List.append_assoc, List.append_nil, List.nil_append])))
    have l3 := flagO_len g3
    repeat (first | (first | refine J_region ?_ | refine JL_nil ?_ | refine J_seq ?_ | refine J_condT rfl ?_) | (first | ((first | refine JL_step rfl ?_); first | refine JO_loadA rfl (by simp) rfl ?_ | refine JO_field0 rfl rfl ?_ | refine JO_load rfl rfl ?_)))
    have c4 := edge11_c w (((pre ++ b1) ++ b2) ++ b3) pay (by (try simp only [List.length_append]); omega)
    refine JL_step rfl (JO_callO rfl c4 rfl (fun b4 g4 => ?_) (fun g4 => outP_no (by rw [e0]; simp only [g1, g2, g3, g4, mustO_t, mustO_f, catO_none, catO_none', catO_some, catO_nil, List.append_assoc, List.append_nil, List.nil_append])))
    have l4 := edgeO_len g4
    repeat (first | (first | refine J_region ?_ | refine JL_nil ?_ | refine J_seq ?_ | refine J_block ?_ | refine J_condF rfl ?_) | (first | ((first | refine JL_step rfl ?_); first | refine JO_q (by simp) (JQ_eqF rfl rfl (by omega)) rfl ?_ | refine JO_assign rfl rfl ?_ | refine JO_len rfl rfl ?_ | refine JO_field0 rfl rfl ?_ | refine JO_load rfl rfl ?_ | refine JO_eqI rfl rfl rfl ?_)))
    refine JL_step rfl (JO_must rfl (must11_c _) rfl (fun g5 => ?_) (fun g5 => outP_no (by rw [e0, oneO_no g5]; simp only [g1, g2, g3, g4, mustO_t, mustO_f, catO_none, catO_none', catO_some, catO_nil, List.append_assoc, List.append_nil, List.nil_append])))
    obtain ⟨e, rfl⟩ := one_of g5
    repeat (first | (first | refine JL_nil ?_) | (first | ((first | refine JL_step rfl ?_); first | refine JO_q (by simp) (JQ_lssT rfl rfl (by omega)) rfl ?_)))
    refine J_front (Vw 2 (slc a 1) 1 ([e].flatMap edgeC)) ?_
    refine J_fact (φ := ∃ b o, a.1 = some ⟨b, o, none⟩) (fun F w hs => hs.tail.out (fun k hk => vw_place (by decide) k hk)) (fun hp => ?_)
    obtain ⟨a1, a2⟩ := a
    dsimp only at hp
    obtain ⟨b, o, rfl⟩ := hp
    rw [show oneO [e] = edgeO e from rfl] at e0
    have c6 := edge11_c w ((((pre ++ b1) ++ b2) ++ b3) ++ b4) e (by (try simp only [List.length_append]); omega)
    repeat' (first | refine J_regionD ?_ | refine JA_end rfl ?_ | refine JA_step rfl ?_ | exact jal_nil | refine jal_no rfl ?_ | refine jal_yes rfl ?_ ?_ | (first | ((first | refine JA_op rfl rfl ?_); first | refine JO_field0 rfl rfl ?_ | refine JO_load rfl rfl ?_ | refine JO_loadW rfl (by rfl) rfl ?_ | refine JO_index (j := 0) rfl rfl (by simp) rfl ?_ | refine JO_loadAL (edgeC e) rfl (fun i u hu => lds_vwA (n := 1) (cap := a2) (j := 0) (by decide) (by simpa using hu)) rfl rfl ?_ | refine JO_callO rfl c6 rfl (fun b6 g6 => ?_) (fun g6 => outP_no (by rw [e0]; simp only [g1, g2, g3, g4, g6, mustO_t, mustO_f, catO_none, catO_none', catO_some, catO_nil, List.append_assoc, List.append_nil, List.nil_append])))))
    all_goals exact outP_end rfl (show nodeO _ = some (b1 ++ (b2 ++ (b3 ++ (b4 ++ (b6))))) by rw [e0]; simp only [g1, g2, g3, g4, g6, mustO_t, mustO_f, catO_none, catO_none', catO_some, catO_nil, List.append_assoc, List.append_nil, List.nil_append]) (by simp) Ent.sel
set_option maxHeartbeats 2000000 in
theorem node30_c (hpre : pre.length + (100 + costs (fun _ => 20) next) ≤ 880000) : Ct Tryz.prog 53 #[lay w, .agg (nodC ⟨3, prio, false, pay, next, a⟩).toArray] [WrB w pre, Vw 2 (slc a next.length) next.length (next.flatMap edgeC)] (OutP (nodeO ⟨3, prio, false, pay, next, a⟩) w pre [Vw 2 (slc a next.length) next.length (next.flatMap edgeC)]) := by
    refine fn_ret (vs := [lay w, .agg [.int .i64 3, .int .i64 prio, .bool false, .int .i64 pay.1, .int .i64 pay.2, slc a next.length].toArray]) Tryz.func53 rfl Tryz.ntmps53 (by simp) ?_
    have e0 : nodeO ⟨3, prio, false, pay, next, a⟩ = catO (numO 3 5) (catO (mustO (pay.1 == 0 && pay.2 == 0)) (catO (numO prio 1000) (catO (mustO true) (listO 1 8 edgeO next)))) := by simp [nodeO, payOk]
    repeat (first | (first | refine J_region ?_ | refine JL_nil ?_ | refine J_seq ?_) | (first | ((first | refine JL_step rfl ?_); first | refine JO_loadA rfl (by simp) rfl ?_ | refine JO_field0 rfl rfl ?_ | refine JO_load rfl rfl ?_ | refine JO_boxA rfl rfl (fun r => ?_))))
    have c1 := num11_c w pre 3 5 (by (try simp only [List.length_append]); omega) (by decide)
    refine JL_step rfl (JO_callO rfl c1 rfl (fun b1 g1 => ?_) (fun g1 => outP_no (by rw [e0]; simp only [g1, mustO_t, mustO_f, catO_none, catO_none', catO_some, catO_nil, List.append_assoc, List.append_nil, List.nil_append])))
    have l1 := numO_len g1 (by decide)
    repeat (first | (first | refine J_region ?_ | refine JL_nil ?_ | refine J_seq ?_) | (first | ((first | refine JL_step rfl ?_ | refine JL_take rfl rfl ?_); first | refine JO_q (by simp) (JQ_neT rfl rfl (by omega)) rfl ?_ | refine JO_move rfl rfl ?_ | refine JO_assign rfl rfl ?_ | refine JO_field0 rfl rfl ?_ | refine JO_load rfl rfl ?_ | refine JO_pickT rfl rfl rfl ?_) | refine JL_pass rfl rfl rfl ?_))
    refine JL_step rfl (JO_must rfl (must11_c true) rfl (fun _ => ?_) (fun h => absurd h (by decide)))
    repeat (first | (first | refine J_region ?_ | refine JL_nil ?_ | refine J_seq ?_) | (first | ((first | refine JL_step rfl ?_ | refine JL_take rfl rfl ?_); first | refine JO_q (by simp) (JQ_eqAgg rfl rfl (eq_ii pay.1 pay.2 0 0 9998)) rfl ?_ | refine JO_build (cs := edgeC (0, 0)) rfl rfl rfl ?_ | refine JO_loadA rfl (by simp) rfl ?_ | refine JO_move rfl rfl ?_ | refine JO_field0 rfl rfl ?_ | refine JO_load rfl rfl ?_ | refine JO_pickF rfl rfl rfl ?_)))
    refine JL_step rfl (JO_must rfl (must11_c _) rfl (fun g2 => ?_) (fun g2 => outP_no (by rw [e0]; simp only [g1, g2, mustO_t, mustO_f, catO_none, catO_none', catO_some, catO_nil, List.append_assoc, List.append_nil, List.nil_append])))
    repeat (first | (first | refine J_region ?_ | refine JL_nil ?_ | refine J_seq ?_ | refine J_condT rfl ?_) | (first | ((first | refine JL_step rfl ?_); first | refine JO_loadA rfl (by simp) rfl ?_ | refine JO_move rfl rfl ?_ | refine JO_field0 rfl rfl ?_ | refine JO_load rfl rfl ?_)))
    have c3 := num11_c w (pre ++ b1) prio 1000 (by (try simp only [List.length_append]); omega) (by decide)
    refine JL_step rfl (JO_callO rfl c3 rfl (fun b3 g3 => ?_) (fun g3 => outP_no (by rw [e0]; simp only [g1, g2, g3, mustO_t, mustO_f, catO_none, catO_none', catO_some, catO_nil, List.append_assoc, List.append_nil, List.nil_append])))
    have l3 := numO_len g3 (by decide)
    repeat (first | (first | refine J_region ?_ | refine JL_nil ?_ | refine J_seq ?_ | refine J_block ?_ | refine J_condF rfl ?_) | (first | ((first | refine JL_step rfl ?_); first | refine JO_q (by simp) (JQ_eqF rfl rfl (by omega)) rfl ?_ | refine JO_not rfl rfl ?_ | refine JO_assign rfl rfl ?_ | refine JO_field0 rfl rfl ?_ | refine JO_load rfl rfl ?_ | refine JO_not rfl rfl ?_)))
    refine JL_step rfl (JO_must rfl (must11_c true) rfl (fun _ => ?_) (fun h => absurd h (by decide)))
    repeat (first | (first | refine J_region ?_ | refine JL_nil ?_ | refine J_seq ?_ | refine J_block ?_ | refine J_skip ?_ | refine J_condT rfl ?_ | refine J_condF rfl ?_) | (first | ((first | refine JL_step rfl ?_); first | refine JO_q (by simp) (JQ_eqT rfl rfl (by omega)) rfl ?_ | refine JO_q (by simp) (JQ_eqF rfl rfl (by omega)) rfl ?_ | refine JO_loadA rfl (by simp) rfl ?_ | refine JO_assign rfl rfl ?_ | refine JO_field0 rfl rfl ?_ | refine JO_load rfl rfl ?_ | refine JO_makeFunc rfl rfl rfl ?_)))
    refine JL_heap emp_in ?_
    have c4 := listedEdge_c edgeC edgeO (fun _ => 20) (f := 111) [lay w] [] Emp (fun _ => rfl) edge_one (fun _ _ h => edgeO_len h) w next (fun x _ p hp => ct_emp (edge11_c w p x (by omega))) a 1 8 (by decide) ((pre ++ b1) ++ b3) (by (try simp only [List.length_append]); omega)
    refine JL_step rfl (JO_callO rfl c4 rfl (fun b4 g4 => ?_) (fun g4 => outP_no (by rw [e0]; simp only [g1, g2, g3, g4, mustO_t, mustO_f, catO_none, catO_none', catO_some, catO_nil, List.append_assoc, List.append_nil, List.nil_append])))
    have l4 := listO_len (by decide) (fun _ _ h => edgeO_len h) g4
    repeat (first | (first | refine JL_nil ?_) | (first | ((first | refine JL_step rfl ?_); first | refine JO_q (by simp) (JQ_lssT rfl rfl (by omega)) rfl ?_)))
    exact outP_end rfl (show nodeO _ = some (b1 ++ (b3 ++ (b4))) by rw [e0]; simp only [g1, g2, g3, g4, mustO_t, mustO_f, catO_none, catO_none', catO_some, catO_nil, List.append_assoc, List.append_nil, List.nil_append]) (by simp) Ent.sel
set_option maxHeartbeats 2000000 in
theorem node31_c (hpre : pre.length + (100 + costs (fun _ => 20) next) ≤ 880000) : Ct Tryz.prog 53 #[lay w, .agg (nodC ⟨3, prio, true, pay, next, a⟩).toArray] [WrB w pre, Vw 2 (slc a next.length) next.length (next.flatMap edgeC)] (OutP (nodeO ⟨3, prio, true, pay, next, a⟩) w pre [Vw 2 (slc a next.length) next.length (next.flatMap edgeC)]) := by
    refine fn_ret (vs := [lay w, .agg [.int .i64 3, .int .i64 prio, .bool true, .int .i64 pay.1, .int .i64 pay.2, slc a next.length].toArray]) Tryz.func53 rfl Tryz.ntmps53 (by simp) ?_
    have e0 : nodeO ⟨3, prio, true, pay, next, a⟩ = catO (numO 3 5) (catO (mustO true) (catO (numO prio 1000) (catO (mustO false) (listO 1 8 edgeO next)))) := by simp [nodeO, payOk]
    repeat (first | (first | refine J_region ?_ | refine JL_nil ?_ | refine J_seq ?_) | (first | ((first | refine JL_step rfl ?_); first | refine JO_loadA rfl (by simp) rfl ?_ | refine JO_field0 rfl rfl ?_ | refine JO_load rfl rfl ?_ | refine JO_boxA rfl rfl (fun r => ?_))))
    have c1 := num11_c w pre 3 5 (by (try simp only [List.length_append]); omega) (by decide)
    refine JL_step rfl (JO_callO rfl c1 rfl (fun b1 g1 => ?_) (fun g1 => outP_no (by rw [e0]; simp only [g1, mustO_t, mustO_f, catO_none, catO_none', catO_some, catO_nil, List.append_assoc, List.append_nil, List.nil_append])))
    have l1 := numO_len g1 (by decide)
    repeat (first | (first | refine J_region ?_ | refine JL_nil ?_ | refine J_seq ?_) | (first | ((first | refine JL_step rfl ?_ | refine JL_take rfl rfl ?_); first | refine JO_q (by simp) (JQ_neT rfl rfl (by omega)) rfl ?_ | refine JO_move rfl rfl ?_ | refine JO_assign rfl rfl ?_ | refine JO_field0 rfl rfl ?_ | refine JO_load rfl rfl ?_ | refine JO_pickT rfl rfl rfl ?_) | refine JL_pass rfl rfl rfl ?_))
    refine JL_step rfl (JO_must rfl (must11_c true) rfl (fun _ => ?_) (fun h => absurd h (by decide)))
    repeat (first | (first | refine J_region ?_ | refine JL_nil ?_ | refine J_seq ?_) | (first | ((first | refine JL_step rfl ?_); first | refine JO_move rfl rfl ?_ | refine JO_field0 rfl rfl ?_ | refine JO_load rfl rfl ?_ | refine JO_pickT rfl rfl rfl ?_) | refine JL_pass rfl rfl rfl ?_))
    refine JL_step rfl (JO_must rfl (must11_c true) rfl (fun _ => ?_) (fun h => absurd h (by decide)))
    repeat (first | (first | refine J_region ?_ | refine JL_nil ?_ | refine J_seq ?_ | refine J_condT rfl ?_) | (first | ((first | refine JL_step rfl ?_); first | refine JO_loadA rfl (by simp) rfl ?_ | refine JO_move rfl rfl ?_ | refine JO_field0 rfl rfl ?_ | refine JO_load rfl rfl ?_)))
    have c2 := num11_c w (pre ++ b1) prio 1000 (by (try simp only [List.length_append]); omega) (by decide)
    refine JL_step rfl (JO_callO rfl c2 rfl (fun b2 g2 => ?_) (fun g2 => outP_no (by rw [e0]; simp only [g1, g2, mustO_t, mustO_f, catO_none, catO_none', catO_some, catO_nil, List.append_assoc, List.append_nil, List.nil_append])))
    have l2 := numO_len g2 (by decide)
    repeat (first | (first | refine J_region ?_ | refine JL_nil ?_ | refine J_seq ?_ | refine J_block ?_ | refine J_condF rfl ?_) | (first | ((first | refine JL_step rfl ?_); first | refine JO_q (by simp) (JQ_eqF rfl rfl (by omega)) rfl ?_ | refine JO_not rfl rfl ?_ | refine JO_assign rfl rfl ?_ | refine JO_field0 rfl rfl ?_ | refine JO_load rfl rfl ?_ | refine JO_not rfl rfl ?_)))
    refine JL_step rfl (JO_must rfl (must11_c false) rfl (fun h => absurd h (by decide)) (fun _ => outP_no (by rw [e0]; simp only [g1, g2, mustO_t, mustO_f, catO_none, catO_none', catO_some, catO_nil, List.append_assoc, List.append_nil, List.nil_append])))
set_option maxHeartbeats 2000000 in
theorem node40_c (hpre : pre.length + (100 + costs (fun _ => 20) next) ≤ 880000) : Ct Tryz.prog 53 #[lay w, .agg (nodC ⟨4, prio, false, pay, next, a⟩).toArray] [WrB w pre, Vw 2 (slc a next.length) next.length (next.flatMap edgeC)] (OutP (nodeO ⟨4, prio, false, pay, next, a⟩) w pre [Vw 2 (slc a next.length) next.length (next.flatMap edgeC)]) := by
    refine fn_ret (vs := [lay w, .agg [.int .i64 4, .int .i64 prio, .bool false, .int .i64 pay.1, .int .i64 pay.2, slc a next.length].toArray]) Tryz.func53 rfl Tryz.ntmps53 (by simp) ?_
    have e0 : nodeO ⟨4, prio, false, pay, next, a⟩ = catO (numO 4 5) (catO (mustO (pay.1 == 0 && pay.2 == 0)) (catO (numO prio 1000) (catO (mustO true) (listO 1 8 edgeO next)))) := by simp [nodeO, payOk]
    repeat (first | (first | refine J_region ?_ | refine JL_nil ?_ | refine J_seq ?_) | (first | ((first | refine JL_step rfl ?_); first | refine JO_loadA rfl (by simp) rfl ?_ | refine JO_field0 rfl rfl ?_ | refine JO_load rfl rfl ?_ | refine JO_boxA rfl rfl (fun r => ?_))))
    have c1 := num11_c w pre 4 5 (by (try simp only [List.length_append]); omega) (by decide)
    refine JL_step rfl (JO_callO rfl c1 rfl (fun b1 g1 => ?_) (fun g1 => outP_no (by rw [e0]; simp only [g1, mustO_t, mustO_f, catO_none, catO_none', catO_some, catO_nil, List.append_assoc, List.append_nil, List.nil_append])))
    have l1 := numO_len g1 (by decide)
    repeat (first | (first | refine J_region ?_ | refine JL_nil ?_ | refine J_seq ?_) | (first | ((first | refine JL_step rfl ?_ | refine JL_take rfl rfl ?_); first | refine JO_q (by simp) (JQ_neT rfl rfl (by omega)) rfl ?_ | refine JO_move rfl rfl ?_ | refine JO_assign rfl rfl ?_ | refine JO_field0 rfl rfl ?_ | refine JO_load rfl rfl ?_ | refine JO_pickT rfl rfl rfl ?_) | refine JL_pass rfl rfl rfl ?_))
    refine JL_step rfl (JO_must rfl (must11_c true) rfl (fun _ => ?_) (fun h => absurd h (by decide)))
    repeat (first | (first | refine J_region ?_ | refine JL_nil ?_ | refine J_seq ?_) | (first | ((first | refine JL_step rfl ?_ | refine JL_take rfl rfl ?_); first | refine JO_q (by simp) (JQ_eqAgg rfl rfl (eq_ii pay.1 pay.2 0 0 9998)) rfl ?_ | refine JO_build (cs := edgeC (0, 0)) rfl rfl rfl ?_ | refine JO_loadA rfl (by simp) rfl ?_ | refine JO_move rfl rfl ?_ | refine JO_field0 rfl rfl ?_ | refine JO_load rfl rfl ?_ | refine JO_pickF rfl rfl rfl ?_)))
    refine JL_step rfl (JO_must rfl (must11_c _) rfl (fun g2 => ?_) (fun g2 => outP_no (by rw [e0]; simp only [g1, g2, mustO_t, mustO_f, catO_none, catO_none', catO_some, catO_nil, List.append_assoc, List.append_nil, List.nil_append])))
    repeat (first | (first | refine J_region ?_ | refine JL_nil ?_ | refine J_seq ?_ | refine J_condT rfl ?_) | (first | ((first | refine JL_step rfl ?_); first | refine JO_loadA rfl (by simp) rfl ?_ | refine JO_move rfl rfl ?_ | refine JO_field0 rfl rfl ?_ | refine JO_load rfl rfl ?_)))
    have c3 := num11_c w (pre ++ b1) prio 1000 (by (try simp only [List.length_append]); omega) (by decide)
    refine JL_step rfl (JO_callO rfl c3 rfl (fun b3 g3 => ?_) (fun g3 => outP_no (by rw [e0]; simp only [g1, g2, g3, mustO_t, mustO_f, catO_none, catO_none', catO_some, catO_nil, List.append_assoc, List.append_nil, List.nil_append])))
    have l3 := numO_len g3 (by decide)
    repeat (first | (first | refine J_region ?_ | refine JL_nil ?_ | refine J_seq ?_ | refine J_block ?_ | refine J_condF rfl ?_) | (first | ((first | refine JL_step rfl ?_); first | refine JO_q (by simp) (JQ_eqF rfl rfl (by omega)) rfl ?_ | refine JO_not rfl rfl ?_ | refine JO_assign rfl rfl ?_ | refine JO_field0 rfl rfl ?_ | refine JO_load rfl rfl ?_ | refine JO_not rfl rfl ?_)))
    refine JL_step rfl (JO_must rfl (must11_c true) rfl (fun _ => ?_) (fun h => absurd h (by decide)))
    repeat (first | (first | refine J_region ?_ | refine JL_nil ?_ | refine J_seq ?_ | refine J_block ?_ | refine J_condT rfl ?_ | refine J_condF rfl ?_) | (first | ((first | refine JL_step rfl ?_); first | refine JO_q (by simp) (JQ_eqT rfl rfl (by omega)) rfl ?_ | refine JO_q (by simp) (JQ_eqF rfl rfl (by omega)) rfl ?_ | refine JO_loadA rfl (by simp) rfl ?_ | refine JO_assign rfl rfl ?_ | refine JO_field0 rfl rfl ?_ | refine JO_load rfl rfl ?_ | refine JO_makeFunc rfl rfl rfl ?_)))
    refine JL_heap emp_in ?_
    have c4 := listedEdge_c edgeC edgeO (fun _ => 20) (f := 111) [lay w] [] Emp (fun _ => rfl) edge_one (fun _ _ h => edgeO_len h) w next (fun x _ p hp => ct_emp (edge11_c w p x (by omega))) a 1 8 (by decide) ((pre ++ b1) ++ b3) (by (try simp only [List.length_append]); omega)
    refine JL_step rfl (JO_callO rfl c4 rfl (fun b4 g4 => ?_) (fun g4 => outP_no (by rw [e0]; simp only [g1, g2, g3, g4, mustO_t, mustO_f, catO_none, catO_none', catO_some, catO_nil, List.append_assoc, List.append_nil, List.nil_append])))
    have l4 := listO_len (by decide) (fun _ _ h => edgeO_len h) g4
    repeat (first | (first | refine JL_nil ?_) | (first | ((first | refine JL_step rfl ?_); first | refine JO_q (by simp) (JQ_lssT rfl rfl (by omega)) rfl ?_)))
    exact outP_end rfl (show nodeO _ = some (b1 ++ (b3 ++ (b4))) by rw [e0]; simp only [g1, g2, g3, g4, mustO_t, mustO_f, catO_none, catO_none', catO_some, catO_nil, List.append_assoc, List.append_nil, List.nil_append]) (by simp) Ent.sel
set_option maxHeartbeats 2000000 in
theorem node41_c (hpre : pre.length + (100 + costs (fun _ => 20) next) ≤ 880000) : Ct Tryz.prog 53 #[lay w, .agg (nodC ⟨4, prio, true, pay, next, a⟩).toArray] [WrB w pre, Vw 2 (slc a next.length) next.length (next.flatMap edgeC)] (OutP (nodeO ⟨4, prio, true, pay, next, a⟩) w pre [Vw 2 (slc a next.length) next.length (next.flatMap edgeC)]) := by
    refine fn_ret (vs := [lay w, .agg [.int .i64 4, .int .i64 prio, .bool true, .int .i64 pay.1, .int .i64 pay.2, slc a next.length].toArray]) Tryz.func53 rfl Tryz.ntmps53 (by simp) ?_
    have e0 : nodeO ⟨4, prio, true, pay, next, a⟩ = catO (numO 4 5) (catO (mustO true) (catO (numO prio 1000) (catO (mustO false) (listO 1 8 edgeO next)))) := by simp [nodeO, payOk]
    repeat (first | (first | refine J_region ?_ | refine JL_nil ?_ | refine J_seq ?_) | (first | ((first | refine JL_step rfl ?_); first | refine JO_loadA rfl (by simp) rfl ?_ | refine JO_field0 rfl rfl ?_ | refine JO_load rfl rfl ?_ | refine JO_boxA rfl rfl (fun r => ?_))))
    have c1 := num11_c w pre 4 5 (by (try simp only [List.length_append]); omega) (by decide)
    refine JL_step rfl (JO_callO rfl c1 rfl (fun b1 g1 => ?_) (fun g1 => outP_no (by rw [e0]; simp only [g1, mustO_t, mustO_f, catO_none, catO_none', catO_some, catO_nil, List.append_assoc, List.append_nil, List.nil_append])))
    have l1 := numO_len g1 (by decide)
    repeat (first | (first | refine J_region ?_ | refine JL_nil ?_ | refine J_seq ?_) | (first | ((first | refine JL_step rfl ?_ | refine JL_take rfl rfl ?_); first | refine JO_q (by simp) (JQ_neT rfl rfl (by omega)) rfl ?_ | refine JO_move rfl rfl ?_ | refine JO_assign rfl rfl ?_ | refine JO_field0 rfl rfl ?_ | refine JO_load rfl rfl ?_ | refine JO_pickT rfl rfl rfl ?_) | refine JL_pass rfl rfl rfl ?_))
    refine JL_step rfl (JO_must rfl (must11_c true) rfl (fun _ => ?_) (fun h => absurd h (by decide)))
    repeat (first | (first | refine J_region ?_ | refine JL_nil ?_ | refine J_seq ?_) | (first | ((first | refine JL_step rfl ?_); first | refine JO_move rfl rfl ?_ | refine JO_field0 rfl rfl ?_ | refine JO_load rfl rfl ?_ | refine JO_pickT rfl rfl rfl ?_) | refine JL_pass rfl rfl rfl ?_))
    refine JL_step rfl (JO_must rfl (must11_c true) rfl (fun _ => ?_) (fun h => absurd h (by decide)))
    repeat (first | (first | refine J_region ?_ | refine JL_nil ?_ | refine J_seq ?_ | refine J_condT rfl ?_) | (first | ((first | refine JL_step rfl ?_); first | refine JO_loadA rfl (by simp) rfl ?_ | refine JO_move rfl rfl ?_ | refine JO_field0 rfl rfl ?_ | refine JO_load rfl rfl ?_)))
    have c2 := num11_c w (pre ++ b1) prio 1000 (by (try simp only [List.length_append]); omega) (by decide)
    refine JL_step rfl (JO_callO rfl c2 rfl (fun b2 g2 => ?_) (fun g2 => outP_no (by rw [e0]; simp only [g1, g2, mustO_t, mustO_f, catO_none, catO_none', catO_some, catO_nil, List.append_assoc, List.append_nil, List.nil_append])))
    have l2 := numO_len g2 (by decide)
    repeat (first | (first | refine J_region ?_ | refine JL_nil ?_ | refine J_seq ?_ | refine J_block ?_ | refine J_condF rfl ?_) | (first | ((first | refine JL_step rfl ?_); first | refine JO_q (by simp) (JQ_eqF rfl rfl (by omega)) rfl ?_ | refine JO_not rfl rfl ?_ | refine JO_assign rfl rfl ?_ | refine JO_field0 rfl rfl ?_ | refine JO_load rfl rfl ?_ | refine JO_not rfl rfl ?_)))
    refine JL_step rfl (JO_must rfl (must11_c false) rfl (fun h => absurd h (by decide)) (fun _ => outP_no (by rw [e0]; simp only [g1, g2, mustO_t, mustO_f, catO_none, catO_none', catO_some, catO_nil, List.append_assoc, List.append_nil, List.nil_append])))
set_option maxHeartbeats 2000000 in
theorem node50_c (hpre : pre.length + (100 + costs (fun _ => 20) next) ≤ 880000) : Ct Tryz.prog 53 #[lay w, .agg (nodC ⟨5, prio, false, pay, next, a⟩).toArray] [WrB w pre, Vw 2 (slc a next.length) next.length (next.flatMap edgeC)] (OutP (nodeO ⟨5, prio, false, pay, next, a⟩) w pre [Vw 2 (slc a next.length) next.length (next.flatMap edgeC)]) := by
    refine fn_ret (vs := [lay w, .agg [.int .i64 5, .int .i64 prio, .bool false, .int .i64 pay.1, .int .i64 pay.2, slc a next.length].toArray]) Tryz.func53 rfl Tryz.ntmps53 (by simp) ?_
    have e0 : nodeO ⟨5, prio, false, pay, next, a⟩ = catO (numO 5 5) (catO (mustO (decide (prio = 0))) (catO (mustO (pay.1 == 0 && pay.2 == 0)) (catO (mustO true) (oneO next)))) := by simp [nodeO, payOk]
    repeat (first | (first | refine J_region ?_ | refine JL_nil ?_ | refine J_seq ?_) | (first | ((first | refine JL_step rfl ?_); first | refine JO_loadA rfl (by simp) rfl ?_ | refine JO_field0 rfl rfl ?_ | refine JO_load rfl rfl ?_ | refine JO_boxA rfl rfl (fun r => ?_))))
    have c1 := num11_c w pre 5 5 (by (try simp only [List.length_append]); omega) (by decide)
    refine JL_step rfl (JO_callO rfl c1 rfl (fun b1 g1 => ?_) (fun g1 => outP_no (by rw [e0]; simp only [g1, mustO_t, mustO_f, catO_none, catO_none', catO_some, catO_nil, List.append_assoc, List.append_nil, List.nil_append])))
    have l1 := numO_len g1 (by decide)
    repeat (first | (first | refine J_region ?_ | refine JL_nil ?_ | refine J_seq ?_) | (first | ((first | refine JL_step rfl ?_ | refine JL_take rfl rfl ?_); first | refine JO_q (by simp) (JQ_neT rfl rfl (by omega)) rfl ?_ | refine JO_q (by simp) (JQ_neF rfl rfl (by omega)) rfl ?_ | refine JO_move rfl rfl ?_ | refine JO_assign rfl rfl ?_ | refine JO_field0 rfl rfl ?_ | refine JO_load rfl rfl ?_ | refine JO_pickT rfl rfl rfl ?_ | refine JO_pickF rfl rfl rfl ?_ | refine JO_eqI rfl rfl rfl ?_)))
    refine JL_step rfl (JO_must rfl (must11_c _) rfl (fun g2 => ?_) (fun g2 => outP_no (by rw [e0]; simp only [g1, g2, mustO_t, mustO_f, catO_none, catO_none', catO_some, catO_nil, List.append_assoc, List.append_nil, List.nil_append])))
    repeat (first | (first | refine J_region ?_ | refine JL_nil ?_ | refine J_seq ?_) | (first | ((first | refine JL_step rfl ?_ | refine JL_take rfl rfl ?_); first | refine JO_q (by simp) (JQ_eqAgg rfl rfl (eq_ii pay.1 pay.2 0 0 9998)) rfl ?_ | refine JO_build (cs := edgeC (0, 0)) rfl rfl rfl ?_ | refine JO_loadA rfl (by simp) rfl ?_ | refine JO_move rfl rfl ?_ | refine JO_field0 rfl rfl ?_ | refine JO_load rfl rfl ?_ | refine JO_pickF rfl rfl rfl ?_)))
    refine JL_step rfl (JO_must rfl (must11_c _) rfl (fun g3 => ?_) (fun g3 => outP_no (by rw [e0]; simp only [g1, g2, g3, mustO_t, mustO_f, catO_none, catO_none', catO_some, catO_nil, List.append_assoc, List.append_nil, List.nil_append])))
    repeat (first | (first | refine J_region ?_ | refine JL_nil ?_ | refine J_seq ?_ | refine J_block ?_ | refine J_skip ?_ | refine J_condF rfl ?_) | (first | ((first | refine JL_step rfl ?_); first | refine JO_q (by simp) (JQ_eqF rfl rfl (by omega)) rfl ?_ | refine JO_not rfl rfl ?_ | refine JO_move rfl rfl ?_ | refine JO_assign rfl rfl ?_ | refine JO_field0 rfl rfl ?_ | refine JO_load rfl rfl ?_ | refine JO_not rfl rfl ?_)))
    refine JL_step rfl (JO_must rfl (must11_c true) rfl (fun _ => ?_) (fun h => absurd h (by decide)))
    repeat (first | (first | refine J_region ?_ | refine JL_nil ?_ | refine J_seq ?_ | refine J_block ?_ | refine J_condF rfl ?_) | (first | ((first | refine JL_step rfl ?_); first | refine JO_q (by simp) (JQ_eqF rfl rfl (by omega)) rfl ?_ | refine JO_assign rfl rfl ?_ | refine JO_len rfl rfl ?_ | refine JO_field0 rfl rfl ?_ | refine JO_load rfl rfl ?_ | refine JO_eqI rfl rfl rfl ?_)))
    refine JL_step rfl (JO_must rfl (must11_c _) rfl (fun g4 => ?_) (fun g4 => outP_no (by rw [e0, oneO_no g4]; simp only [g1, g2, g3, mustO_t, mustO_f, catO_none, catO_none', catO_some, catO_nil, List.append_assoc, List.append_nil, List.nil_append])))
    obtain ⟨e, rfl⟩ := one_of g4
    repeat (first | (first | refine JL_nil ?_) | (first | ((first | refine JL_step rfl ?_); first | refine JO_q (by simp) (JQ_lssT rfl rfl (by omega)) rfl ?_)))
    refine J_front (Vw 2 (slc a 1) 1 ([e].flatMap edgeC)) ?_
    refine J_fact (φ := ∃ b o, a.1 = some ⟨b, o, none⟩) (fun F w hs => hs.tail.out (fun k hk => vw_place (by decide) k hk)) (fun hp => ?_)
    obtain ⟨a1, a2⟩ := a
    dsimp only at hp
    obtain ⟨b, o, rfl⟩ := hp
    rw [show oneO [e] = edgeO e from rfl] at e0
    have c5 := edge11_c w (pre ++ b1) e (by (try simp only [List.length_append]); omega)
    repeat' (first | refine J_regionD ?_ | refine JA_end rfl ?_ | refine JA_step rfl ?_ | exact jal_nil | refine jal_no rfl ?_ | refine jal_yes rfl ?_ ?_ | (first | ((first | refine JA_op rfl rfl ?_); first | refine JO_field0 rfl rfl ?_ | refine JO_load rfl rfl ?_ | refine JO_loadW rfl (by rfl) rfl ?_ | refine JO_index (j := 0) rfl rfl (by simp) rfl ?_ | refine JO_loadAL (edgeC e) rfl (fun i u hu => lds_vwA (n := 1) (cap := a2) (j := 0) (by decide) (by simpa using hu)) rfl rfl ?_ | refine JO_callO rfl c5 rfl (fun b5 g5 => ?_) (fun g5 => outP_no (by rw [e0]; simp only [g1, g2, g3, g5, mustO_t, mustO_f, catO_none, catO_none', catO_some, catO_nil, List.append_assoc, List.append_nil, List.nil_append])))))
    all_goals exact outP_end rfl (show nodeO _ = some (b1 ++ (b5)) by rw [e0]; simp only [g1, g2, g3, g5, mustO_t, mustO_f, catO_none, catO_none', catO_some, catO_nil, List.append_assoc, List.append_nil, List.nil_append]) (by simp) Ent.sel
set_option maxHeartbeats 2000000 in
theorem node51_c (hpre : pre.length + (100 + costs (fun _ => 20) next) ≤ 880000) : Ct Tryz.prog 53 #[lay w, .agg (nodC ⟨5, prio, true, pay, next, a⟩).toArray] [WrB w pre, Vw 2 (slc a next.length) next.length (next.flatMap edgeC)] (OutP (nodeO ⟨5, prio, true, pay, next, a⟩) w pre [Vw 2 (slc a next.length) next.length (next.flatMap edgeC)]) := by
    refine fn_ret (vs := [lay w, .agg [.int .i64 5, .int .i64 prio, .bool true, .int .i64 pay.1, .int .i64 pay.2, slc a next.length].toArray]) Tryz.func53 rfl Tryz.ntmps53 (by simp) ?_
    have e0 : nodeO ⟨5, prio, true, pay, next, a⟩ = catO (numO 5 5) (catO (mustO (decide (prio = 0))) (catO (mustO true) (catO (mustO false) (oneO next)))) := by simp [nodeO, payOk]
    repeat (first | (first | refine J_region ?_ | refine JL_nil ?_ | refine J_seq ?_) | (first | ((first | refine JL_step rfl ?_); first | refine JO_loadA rfl (by simp) rfl ?_ | refine JO_field0 rfl rfl ?_ | refine JO_load rfl rfl ?_ | refine JO_boxA rfl rfl (fun r => ?_))))
    have c1 := num11_c w pre 5 5 (by (try simp only [List.length_append]); omega) (by decide)
    refine JL_step rfl (JO_callO rfl c1 rfl (fun b1 g1 => ?_) (fun g1 => outP_no (by rw [e0]; simp only [g1, mustO_t, mustO_f, catO_none, catO_none', catO_some, catO_nil, List.append_assoc, List.append_nil, List.nil_append])))
    have l1 := numO_len g1 (by decide)
    repeat (first | (first | refine J_region ?_ | refine JL_nil ?_ | refine J_seq ?_) | (first | ((first | refine JL_step rfl ?_ | refine JL_take rfl rfl ?_); first | refine JO_q (by simp) (JQ_neT rfl rfl (by omega)) rfl ?_ | refine JO_q (by simp) (JQ_neF rfl rfl (by omega)) rfl ?_ | refine JO_move rfl rfl ?_ | refine JO_assign rfl rfl ?_ | refine JO_field0 rfl rfl ?_ | refine JO_load rfl rfl ?_ | refine JO_pickT rfl rfl rfl ?_ | refine JO_pickF rfl rfl rfl ?_ | refine JO_eqI rfl rfl rfl ?_)))
    refine JL_step rfl (JO_must rfl (must11_c _) rfl (fun g2 => ?_) (fun g2 => outP_no (by rw [e0]; simp only [g1, g2, mustO_t, mustO_f, catO_none, catO_none', catO_some, catO_nil, List.append_assoc, List.append_nil, List.nil_append])))
    repeat (first | (first | refine J_region ?_ | refine JL_nil ?_ | refine J_seq ?_) | (first | ((first | refine JL_step rfl ?_); first | refine JO_move rfl rfl ?_ | refine JO_field0 rfl rfl ?_ | refine JO_load rfl rfl ?_ | refine JO_pickT rfl rfl rfl ?_) | refine JL_pass rfl rfl rfl ?_))
    refine JL_step rfl (JO_must rfl (must11_c true) rfl (fun _ => ?_) (fun h => absurd h (by decide)))
    repeat (first | (first | refine J_region ?_ | refine JL_nil ?_ | refine J_seq ?_ | refine J_block ?_ | refine J_skip ?_ | refine J_condF rfl ?_) | (first | ((first | refine JL_step rfl ?_); first | refine JO_q (by simp) (JQ_eqF rfl rfl (by omega)) rfl ?_ | refine JO_not rfl rfl ?_ | refine JO_move rfl rfl ?_ | refine JO_assign rfl rfl ?_ | refine JO_field0 rfl rfl ?_ | refine JO_load rfl rfl ?_ | refine JO_not rfl rfl ?_)))
    refine JL_step rfl (JO_must rfl (must11_c false) rfl (fun h => absurd h (by decide)) (fun _ => outP_no (by rw [e0]; simp only [g1, g2, mustO_t, mustO_f, catO_none, catO_none', catO_some, catO_nil, List.append_assoc, List.append_nil, List.nil_append])))
end
end Go.Proofs.YtickblndgihoeaaGreatDoor
