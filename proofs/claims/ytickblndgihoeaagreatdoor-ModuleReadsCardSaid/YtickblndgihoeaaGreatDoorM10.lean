/- Layer 11: laying nodes. -/
import Derived.Test.YtickblndgihoeaaGreatDoorM8
import Derived.Test.YtickblndgihoeaaGreatDoorM9
set_option linter.unusedSimpArgs false
namespace Go.Proofs.YtickblndgihoeaaGreatDoor
open Go Go.Sp
structure Nod where
  kind : Int
  prio : Int
  ch : Bool
  pay : Int × Int
  next : List (Int × Int)
  a : SA
abbrev xR (n : Nod) : List Value := [.int .i64 n.kind,.int .i64 n.prio,.bool n.ch,.int .i64 n.pay.1,.int .i64 n.pay.2,slc n.a n.next.length]
def payOk (n : Nod) : Bool := n.ch || (n.pay.1 == 0 && n.pay.2 == 0)
def oneO : List (Int × Int) → OB
  | [e] => xV e
  | _ => none
def wJ (n : Nod) : OB :=
  if n.kind = 0 then xM (wK 0 5) (xM (wV (decide (n.prio = 0))) (xM (wV (payOk n)) (xM (wV (!n.ch)) (wV (decide ((n.next.length : Int) = 0))))))
  else if n.kind = 5 then xM (wK 5 5) (xM (wV (decide (n.prio = 0))) (xM (wV (payOk n)) (xM (wV (!n.ch)) (oneO n.next))))
  else if n.kind = 1 ∨ n.kind = 2 then xM (wK n.kind 5) (xM (wV (payOk n)) (xM (wK n.prio 1000) (xM (flagO n.ch) (xM (if n.ch then xV n.pay else some []) (oneO n.next)))))
  else if n.kind = 3 ∨ n.kind = 4 then xM (wK n.kind 5) (xM (wV (payOk n)) (xM (wK n.prio 1000) (xM (wV (!n.ch)) (wH 1 8 xV n.next))))
  else none
theorem flagO_len {b : Bool} {bs : List UInt8} (h : flagO b = some bs) : bs.length ≤ 10 := by cases h;simp
theorem one_of {l : List (Int × Int)} (h : decide ((l.length : Int) = 1) = true) : ∃ e,l = [e] := by
  have h := of_decide_eq_true h
  rcases l with _ | ⟨e,_ | ⟨e',l⟩⟩
  · simp at h
  · exact ⟨e,rfl⟩
  · simp only [List.length_cons] at h;omega
theorem oneO_no {l : List (Int × Int)} (h : decide ((l.length : Int) = 1) = false) : oneO l = none := by
  have h := of_decide_eq_false h
  rcases l with _ | ⟨e,_ | ⟨e',l⟩⟩
  · rfl
  · exact absurd rfl h
  · rfl
instance ftEdge : FT Tryz.prog 55 [(3,0),(3,1)] := FT.mk' (by kernel_rfl) (by kernel_rfl) (by kernel_rfl) (by kernel_rfl)
instance ftType : FT Tryz.prog 60 [(3,0),(3,1)] := FT.mk' (by kernel_rfl) (by kernel_rfl) (by kernel_rfl) (by kernel_rfl)
theorem edge_one (e : Int × Int) : ∀ v ∈ yI e,v.oneCell' = true := by simp [Value.oneCell']
theorem ct_emp {f : FuncId} {args : Array Value} {o : OB} {w : Nat} {pre : List UInt8} (h : Ct Tryz.prog f args [WrB w pre] (OutP o w pre [])) : Ct Tryz.prog f args [WrB w pre,Emp] (OutP o w pre [Emp]) :=
  Ct.post (h.frame [Emp]) fun e L'' ⟨L',h1,h2⟩ => by
    cases o with
    | none => exact ⟨[],Ent.nil,h1.1,rfl⟩
    | some bs => obtain ⟨he,hL⟩ := h1;subst hL h2;exact ⟨_,Ent.refl _,he,rfl⟩
attribute [local irreducible] callFunc Go.method J JL JO JR JR1 JRl Ct JG JM JM1 JW JW1 JQ JQ0 JS CtD xB WrB by8 wK Emp xV wH
section
variable (w : Nat) (pre : List UInt8) (prio : Int) (pay : Int × Int) (next : List (Int × Int)) (a : SA)
set_option maxHeartbeats 2000000 in
theorem node00_c (hpre : pre.length + (100 + costs (fun _ => 20) next) ≤ 880000) : Ct Tryz.prog 53 #[lay w,.agg (xR ⟨0,prio,false,pay,next,a⟩).toArray] [WrB w pre,Vw 2 (slc a next.length) next.length (next.flatMap yI)] (OutP (wJ ⟨0,prio,false,pay,next,a⟩) w pre [Vw 2 (slc a next.length) next.length (next.flatMap yI)]) := by
    refine yE (vs := [lay w,.agg [.int .i64 0,.int .i64 prio,.bool false,.int .i64 pay.1,.int .i64 pay.2,slc a next.length].toArray]) Tryz.func53 rfl Tryz.ntmps53 (by simp) ?_
    have e0 : wJ ⟨0,prio,false,pay,next,a⟩ = xM (wK 0 5) (xM (wV (decide (prio = 0))) (xM (wV (pay.1 == 0 && pay.2 == 0)) (xM (wV true) (wV (decide ((next.length : Int) = 0)))))) := by simp [wJ,payOk]
    repeat (first|(first|refine zB ?_|refine zE ?_|refine zG ?_)|(first|((first|refine zA rfl ?_);first|refine xI rfl (by simp) rfl ?_|refine zF rfl rfl ?_|refine zH rfl rfl ?_|refine yN rfl rfl (fun r => ?_))))
    have c1 := uG w pre 0 5 (by (try simp only [List.length_append]);omega) (by decide)
    refine zA rfl (xJ rfl c1 rfl (fun b1 g1 => ?_) (fun g1 => yW (by rw [e0];simp only [g1,wC,xZ,catO_none,catO_none',catO_some,xK,List.append_assoc,List.append_nil,List.nil_append])))
    have l1 := vA g1 (by decide)
    repeat (first|(first|refine zB ?_|refine zE ?_|refine zG ?_)|(first|((first|refine zA rfl ?_|refine zZ rfl rfl ?_);first|refine JOq (vW rfl rfl (by omega)) rfl ?_|refine zD rfl rfl ?_|refine zC rfl rfl ?_|refine zF rfl rfl ?_|refine zH rfl rfl ?_|refine yJ rfl rfl rfl ?_|refine JO_eqI rfl rfl rfl ?_)|refine yU rfl rfl rfl ?_))
    refine zA rfl (wN rfl (xY _) rfl (fun g2 => ?_) (fun g2 => yW (by rw [e0];simp only [g1,g2,wC,xZ,catO_none,catO_none',catO_some,xK,List.append_assoc,List.append_nil,List.nil_append])))
    repeat (first|(first|refine zB ?_|refine zE ?_|refine zG ?_)|(first|((first|refine zA rfl ?_|refine zZ rfl rfl ?_);first|refine JOq (JQ_eqAgg rfl rfl (eq_ii pay.1 pay.2 0 0 9998)) rfl ?_|refine yG (cs := yI (0,0)) rfl rfl rfl ?_|refine xI rfl (by simp) rfl ?_|refine zD rfl rfl ?_|refine zF rfl rfl ?_|refine zH rfl rfl ?_|refine yJ rfl rfl rfl ?_)))
    refine zA rfl (wN rfl (xY _) rfl (fun g3 => ?_) (fun g3 => yW (by rw [e0];simp only [g1,g2,g3,wC,xZ,catO_none,catO_none',catO_some,xK,List.append_assoc,List.append_nil,List.nil_append])))
    repeat (first|(first|refine zB ?_|refine zE ?_|refine zG ?_|refine zK ?_|refine zP ?_|refine zJ rfl ?_)|(first|((first|refine zA rfl ?_);first|refine JOq (yL rfl rfl (by omega)) rfl ?_|refine xD rfl rfl ?_|refine zD rfl rfl ?_|refine zC rfl rfl ?_|refine zF rfl rfl ?_|refine zH rfl rfl ?_|refine xD rfl rfl ?_)))
    refine zA rfl (wN rfl (xY true) rfl (fun _ => ?_) (fun h => absurd h (by decide)))
    repeat (first|(first|refine zB ?_|refine zE ?_|refine zG ?_|refine zK ?_|refine zL rfl ?_)|(first|((first|refine zA rfl ?_);first|refine JOq (yT rfl rfl (by omega)) rfl ?_|refine zC rfl rfl ?_|refine yF rfl rfl ?_|refine zF rfl rfl ?_|refine zH rfl rfl ?_|refine JO_eqI rfl rfl rfl ?_)))
    refine zA rfl (wN rfl (xY _) rfl (fun g4 => ?_) (fun g4 => yW (by rw [e0];simp only [g1,g2,g3,g4,wC,xZ,catO_none,catO_none',catO_some,xK,List.append_assoc,List.append_nil,List.nil_append])))
    repeat (first|(first|refine zE ?_)|(first|((first|refine zA rfl ?_);first|refine JOq (yH rfl rfl (by omega)) rfl ?_)))
    exact uP rfl (show wJ _ = some (b1) by rw [e0];simp only [g1,g2,g3,g4,wC,xZ,catO_none,catO_none',catO_some,xK,List.append_assoc,List.append_nil,List.nil_append]) (by simp) Ent.sel
set_option maxHeartbeats 2000000 in
theorem node01_c (hpre : pre.length + (100 + costs (fun _ => 20) next) ≤ 880000) : Ct Tryz.prog 53 #[lay w,.agg (xR ⟨0,prio,true,pay,next,a⟩).toArray] [WrB w pre,Vw 2 (slc a next.length) next.length (next.flatMap yI)] (OutP (wJ ⟨0,prio,true,pay,next,a⟩) w pre [Vw 2 (slc a next.length) next.length (next.flatMap yI)]) := by
    refine yE (vs := [lay w,.agg [.int .i64 0,.int .i64 prio,.bool true,.int .i64 pay.1,.int .i64 pay.2,slc a next.length].toArray]) Tryz.func53 rfl Tryz.ntmps53 (by simp) ?_
    have e0 : wJ ⟨0,prio,true,pay,next,a⟩ = xM (wK 0 5) (xM (wV (decide (prio = 0))) (xM (wV true) (xM (wV false) (wV (decide ((next.length : Int) = 0)))))) := by simp [wJ,payOk]
    repeat (first|(first|refine zB ?_|refine zE ?_|refine zG ?_)|(first|((first|refine zA rfl ?_);first|refine xI rfl (by simp) rfl ?_|refine zF rfl rfl ?_|refine zH rfl rfl ?_|refine yN rfl rfl (fun r => ?_))))
    have c1 := uG w pre 0 5 (by (try simp only [List.length_append]);omega) (by decide)
    refine zA rfl (xJ rfl c1 rfl (fun b1 g1 => ?_) (fun g1 => yW (by rw [e0];simp only [g1,wC,xZ,catO_none,catO_none',catO_some,xK,List.append_assoc,List.append_nil,List.nil_append])))
    have l1 := vA g1 (by decide)
    repeat (first|(first|refine zB ?_|refine zE ?_|refine zG ?_)|(first|((first|refine zA rfl ?_|refine zZ rfl rfl ?_);first|refine JOq (vW rfl rfl (by omega)) rfl ?_|refine zD rfl rfl ?_|refine zC rfl rfl ?_|refine zF rfl rfl ?_|refine zH rfl rfl ?_|refine yJ rfl rfl rfl ?_|refine JO_eqI rfl rfl rfl ?_)|refine yU rfl rfl rfl ?_))
    refine zA rfl (wN rfl (xY _) rfl (fun g2 => ?_) (fun g2 => yW (by rw [e0];simp only [g1,g2,wC,xZ,catO_none,catO_none',catO_some,xK,List.append_assoc,List.append_nil,List.nil_append])))
    repeat (first|(first|refine zB ?_|refine zE ?_|refine zG ?_)|(first|((first|refine zA rfl ?_);first|refine zD rfl rfl ?_|refine zF rfl rfl ?_|refine zH rfl rfl ?_|refine yA rfl rfl rfl ?_)|refine yU rfl rfl rfl ?_))
    refine zA rfl (wN rfl (xY true) rfl (fun _ => ?_) (fun h => absurd h (by decide)))
    repeat (first|(first|refine zB ?_|refine zE ?_|refine zG ?_|refine zK ?_|refine zP ?_|refine zJ rfl ?_)|(first|((first|refine zA rfl ?_);first|refine JOq (yL rfl rfl (by omega)) rfl ?_|refine xD rfl rfl ?_|refine zD rfl rfl ?_|refine zC rfl rfl ?_|refine zF rfl rfl ?_|refine zH rfl rfl ?_|refine xD rfl rfl ?_)))
    refine zA rfl (wN rfl (xY false) rfl (fun h => absurd h (by decide)) (fun _ => yW (by rw [e0];simp only [g1,g2,wC,xZ,catO_none,catO_none',catO_some,xK,List.append_assoc,List.append_nil,List.nil_append])))
set_option maxHeartbeats 2000000 in
theorem node10_c (hpre : pre.length + (100 + costs (fun _ => 20) next) ≤ 880000) : Ct Tryz.prog 53 #[lay w,.agg (xR ⟨1,prio,false,pay,next,a⟩).toArray] [WrB w pre,Vw 2 (slc a next.length) next.length (next.flatMap yI)] (OutP (wJ ⟨1,prio,false,pay,next,a⟩) w pre [Vw 2 (slc a next.length) next.length (next.flatMap yI)]) := by
    refine yE (vs := [lay w,.agg [.int .i64 1,.int .i64 prio,.bool false,.int .i64 pay.1,.int .i64 pay.2,slc a next.length].toArray]) Tryz.func53 rfl Tryz.ntmps53 (by simp) ?_
    have e0 : wJ ⟨1,prio,false,pay,next,a⟩ = xM (wK 1 5) (xM (wV (pay.1 == 0 && pay.2 == 0)) (xM (wK prio 1000) (xM (flagO false) (xM (some []) (oneO next))))) := by simp [wJ,payOk]
    repeat (first|(first|refine zB ?_|refine zE ?_|refine zG ?_)|(first|((first|refine zA rfl ?_);first|refine xI rfl (by simp) rfl ?_|refine zF rfl rfl ?_|refine zH rfl rfl ?_|refine yN rfl rfl (fun r => ?_))))
    have c1 := uG w pre 1 5 (by (try simp only [List.length_append]);omega) (by decide)
    refine zA rfl (xJ rfl c1 rfl (fun b1 g1 => ?_) (fun g1 => yW (by rw [e0];simp only [g1,wC,xZ,catO_none,catO_none',catO_some,xK,List.append_assoc,List.append_nil,List.nil_append])))
    have l1 := vA g1 (by decide)
    repeat (first|(first|refine zB ?_|refine zE ?_|refine zG ?_)|(first|((first|refine zA rfl ?_|refine zZ rfl rfl ?_);first|refine JOq (vS rfl rfl (by omega)) rfl ?_|refine zD rfl rfl ?_|refine zC rfl rfl ?_|refine zF rfl rfl ?_|refine zH rfl rfl ?_|refine yA rfl rfl rfl ?_)|refine yU rfl rfl rfl ?_))
    refine zA rfl (wN rfl (xY true) rfl (fun _ => ?_) (fun h => absurd h (by decide)))
    repeat (first|(first|refine zB ?_|refine zE ?_|refine zG ?_)|(first|((first|refine zA rfl ?_|refine zZ rfl rfl ?_);first|refine JOq (JQ_eqAgg rfl rfl (eq_ii pay.1 pay.2 0 0 9998)) rfl ?_|refine yG (cs := yI (0,0)) rfl rfl rfl ?_|refine xI rfl (by simp) rfl ?_|refine zD rfl rfl ?_|refine zF rfl rfl ?_|refine zH rfl rfl ?_|refine yJ rfl rfl rfl ?_)))
    refine zA rfl (wN rfl (xY _) rfl (fun g2 => ?_) (fun g2 => yW (by rw [e0];simp only [g1,g2,wC,xZ,catO_none,catO_none',catO_some,xK,List.append_assoc,List.append_nil,List.nil_append])))
    repeat (first|(first|refine zB ?_|refine zE ?_|refine zG ?_|refine zL rfl ?_)|(first|((first|refine zA rfl ?_);first|refine xI rfl (by simp) rfl ?_|refine zD rfl rfl ?_|refine zF rfl rfl ?_|refine zH rfl rfl ?_)))
    have c3 := uG w (pre ++ b1) prio 1000 (by (try simp only [List.length_append]);omega) (by decide)
    refine zA rfl (xJ rfl c3 rfl (fun b3 g3 => ?_) (fun g3 => yW (by rw [e0];simp only [g1,g2,g3,wC,xZ,catO_none,catO_none',catO_some,xK,List.append_assoc,List.append_nil,List.nil_append])))
    have l3 := vA g3 (by decide)
    repeat (first|(first|refine zB ?_|refine zE ?_|refine zG ?_|refine zK ?_|refine zP ?_|refine zL rfl ?_)|(first|((first|refine zA rfl ?_);first|refine JOq (yT rfl rfl (by omega)) rfl ?_|refine xI rfl (by simp) rfl ?_|refine zC rfl rfl ?_|refine zF rfl rfl ?_|refine zH rfl rfl ?_)))
    have c4 := flag11_c w ((pre ++ b1) ++ b3) false (by (try simp only [List.length_append]);omega)
    refine zA rfl (xJ rfl c4 rfl (fun b4 g4 => ?_) (fun g4 => yW (by rw [e0];simp only [g1,g2,g3,g4,wC,xZ,catO_none,catO_none',catO_some,xK,List.append_assoc,List.append_nil,List.nil_append])))
    have l4 := flagO_len g4
    repeat (first|(first|refine zB ?_|refine zE ?_|refine zG ?_|refine zK ?_|refine zP ?_|refine zJ rfl ?_)|(first|((first|refine zA rfl ?_);first|refine JOq (yL rfl rfl (by omega)) rfl ?_|refine zC rfl rfl ?_|refine yF rfl rfl ?_|refine zF rfl rfl ?_|refine zH rfl rfl ?_|refine JO_eqI rfl rfl rfl ?_)))
    refine zA rfl (wN rfl (xY _) rfl (fun g5 => ?_) (fun g5 => yW (by rw [e0,oneO_no g5];simp only [g1,g2,g3,g4,wC,xZ,catO_none,catO_none',catO_some,xK,List.append_assoc,List.append_nil,List.nil_append])))
    obtain ⟨e,rfl⟩ := one_of g5
    repeat (first|(first|refine zE ?_)|(first|((first|refine zA rfl ?_);first|refine JOq (yH rfl rfl (by omega)) rfl ?_)))
    refine wQ (Vw 2 (slc a 1) 1 ([e].flatMap yI)) ?_
    refine wE (φ := ∃ b o,a.1 = some ⟨b,o,none⟩) (fun F w hs => hs.tail.out (fun k hk => xW (by decide) k hk)) (fun hp => ?_)
    obtain ⟨a1,a2⟩ := a
    dsimp only at hp
    obtain ⟨b,o,rfl⟩ := hp
    rw [show oneO [e] = xV e from rfl] at e0
    have c6 := edge11_c w (((pre ++ b1) ++ b3) ++ b4) e (by (try simp only [List.length_append]);omega)
    repeat' (first|refine J_regionD ?_|refine JA_end rfl ?_|refine JA_step rfl ?_|exact jal_nil|refine jal_no rfl ?_|refine jal_yes rfl ?_ ?_|(first|((first|refine JA_op rfl rfl ?_);first|refine zF rfl rfl ?_|refine zH rfl rfl ?_|refine zU rfl (by rfl) rfl ?_|refine wI (j := 0) rfl rfl (by simp) rfl ?_|refine JO_loadAL (yI e) rfl (fun i u hu => xG (n := 1) (cap := a2) (j := 0) (by decide) (by simpa using hu)) rfl rfl ?_|refine xJ rfl c6 rfl (fun b6 g6 => ?_) (fun g6 => yW (by rw [e0];simp only [g1,g2,g3,g4,g6,wC,xZ,catO_none,catO_none',catO_some,xK,List.append_assoc,List.append_nil,List.nil_append])))))
    all_goals exact uP rfl (show wJ _ = some (b1 ++ (b3 ++ (b4 ++ (b6)))) by rw [e0];simp only [g1,g2,g3,g4,g6,wC,xZ,catO_none,catO_none',catO_some,xK,List.append_assoc,List.append_nil,List.nil_append]) (by simp) Ent.sel
set_option maxHeartbeats 2000000 in
theorem node11_c' (hpre : pre.length + (100 + costs (fun _ => 20) next) ≤ 880000) : Ct Tryz.prog 53 #[lay w,.agg (xR ⟨1,prio,true,pay,next,a⟩).toArray] [WrB w pre,Vw 2 (slc a next.length) next.length (next.flatMap yI)] (OutP (wJ ⟨1,prio,true,pay,next,a⟩) w pre [Vw 2 (slc a next.length) next.length (next.flatMap yI)]) := by
    refine yE (vs := [lay w,.agg [.int .i64 1,.int .i64 prio,.bool true,.int .i64 pay.1,.int .i64 pay.2,slc a next.length].toArray]) Tryz.func53 rfl Tryz.ntmps53 (by simp) ?_
    have e0 : wJ ⟨1,prio,true,pay,next,a⟩ = xM (wK 1 5) (xM (wV true) (xM (wK prio 1000) (xM (flagO true) (xM (xV pay) (oneO next))))) := by simp [wJ,payOk]
    repeat (first|(first|refine zB ?_|refine zE ?_|refine zG ?_)|(first|((first|refine zA rfl ?_);first|refine xI rfl (by simp) rfl ?_|refine zF rfl rfl ?_|refine zH rfl rfl ?_|refine yN rfl rfl (fun r => ?_))))
    have c1 := uG w pre 1 5 (by (try simp only [List.length_append]);omega) (by decide)
    refine zA rfl (xJ rfl c1 rfl (fun b1 g1 => ?_) (fun g1 => yW (by rw [e0];simp only [g1,wC,xZ,catO_none,catO_none',catO_some,xK,List.append_assoc,List.append_nil,List.nil_append])))
    have l1 := vA g1 (by decide)
    repeat (first|(first|refine zB ?_|refine zE ?_|refine zG ?_)|(first|((first|refine zA rfl ?_|refine zZ rfl rfl ?_);first|refine JOq (vS rfl rfl (by omega)) rfl ?_|refine zD rfl rfl ?_|refine zC rfl rfl ?_|refine zF rfl rfl ?_|refine zH rfl rfl ?_|refine yA rfl rfl rfl ?_)|refine yU rfl rfl rfl ?_))
    refine zA rfl (wN rfl (xY true) rfl (fun _ => ?_) (fun h => absurd h (by decide)))
    repeat (first|(first|refine zB ?_|refine zE ?_|refine zG ?_)|(first|((first|refine zA rfl ?_);first|refine zD rfl rfl ?_|refine zF rfl rfl ?_|refine zH rfl rfl ?_|refine yA rfl rfl rfl ?_)|refine yU rfl rfl rfl ?_))
    refine zA rfl (wN rfl (xY true) rfl (fun _ => ?_) (fun h => absurd h (by decide)))
    repeat (first|(first|refine zB ?_|refine zE ?_|refine zG ?_|refine zL rfl ?_)|(first|((first|refine zA rfl ?_);first|refine xI rfl (by simp) rfl ?_|refine zD rfl rfl ?_|refine zF rfl rfl ?_|refine zH rfl rfl ?_)))
    have c2 := uG w (pre ++ b1) prio 1000 (by (try simp only [List.length_append]);omega) (by decide)
    refine zA rfl (xJ rfl c2 rfl (fun b2 g2 => ?_) (fun g2 => yW (by rw [e0];simp only [g1,g2,wC,xZ,catO_none,catO_none',catO_some,xK,List.append_assoc,List.append_nil,List.nil_append])))
    have l2 := vA g2 (by decide)
    repeat (first|(first|refine zB ?_|refine zE ?_|refine zG ?_|refine zK ?_|refine zP ?_|refine zL rfl ?_)|(first|((first|refine zA rfl ?_);first|refine JOq (yT rfl rfl (by omega)) rfl ?_|refine xI rfl (by simp) rfl ?_|refine zC rfl rfl ?_|refine zF rfl rfl ?_|refine zH rfl rfl ?_)))
    have c3 := flag11_c w ((pre ++ b1) ++ b2) true (by (try simp only [List.length_append]);omega)
    refine zA rfl (xJ rfl c3 rfl (fun b3 g3 => ?_) (fun g3 => yW (by rw [e0];simp only [g1,g2,g3,wC,xZ,catO_none,catO_none',catO_some,xK,List.append_assoc,List.append_nil,List.nil_append])))
    have l3 := flagO_len g3
    repeat (first|(first|refine zB ?_|refine zE ?_|refine zG ?_|refine zL rfl ?_)|(first|((first|refine zA rfl ?_);first|refine xI rfl (by simp) rfl ?_|refine zF rfl rfl ?_|refine zH rfl rfl ?_)))
    have c4 := edge11_c w (((pre ++ b1) ++ b2) ++ b3) pay (by (try simp only [List.length_append]);omega)
    refine zA rfl (xJ rfl c4 rfl (fun b4 g4 => ?_) (fun g4 => yW (by rw [e0];simp only [g1,g2,g3,g4,wC,xZ,catO_none,catO_none',catO_some,xK,List.append_assoc,List.append_nil,List.nil_append])))
    have l4 := vL g4
    repeat (first|(first|refine zB ?_|refine zE ?_|refine zG ?_|refine zK ?_|refine zJ rfl ?_)|(first|((first|refine zA rfl ?_);first|refine JOq (yL rfl rfl (by omega)) rfl ?_|refine zC rfl rfl ?_|refine yF rfl rfl ?_|refine zF rfl rfl ?_|refine zH rfl rfl ?_|refine JO_eqI rfl rfl rfl ?_)))
    refine zA rfl (wN rfl (xY _) rfl (fun g5 => ?_) (fun g5 => yW (by rw [e0,oneO_no g5];simp only [g1,g2,g3,g4,wC,xZ,catO_none,catO_none',catO_some,xK,List.append_assoc,List.append_nil,List.nil_append])))
    obtain ⟨e,rfl⟩ := one_of g5
    repeat (first|(first|refine zE ?_)|(first|((first|refine zA rfl ?_);first|refine JOq (yH rfl rfl (by omega)) rfl ?_)))
    refine wQ (Vw 2 (slc a 1) 1 ([e].flatMap yI)) ?_
    refine wE (φ := ∃ b o,a.1 = some ⟨b,o,none⟩) (fun F w hs => hs.tail.out (fun k hk => xW (by decide) k hk)) (fun hp => ?_)
    obtain ⟨a1,a2⟩ := a
    dsimp only at hp
    obtain ⟨b,o,rfl⟩ := hp
    rw [show oneO [e] = xV e from rfl] at e0
    have c6 := edge11_c w ((((pre ++ b1) ++ b2) ++ b3) ++ b4) e (by (try simp only [List.length_append]);omega)
    repeat' (first|refine J_regionD ?_|refine JA_end rfl ?_|refine JA_step rfl ?_|exact jal_nil|refine jal_no rfl ?_|refine jal_yes rfl ?_ ?_|(first|((first|refine JA_op rfl rfl ?_);first|refine zF rfl rfl ?_|refine zH rfl rfl ?_|refine zU rfl (by rfl) rfl ?_|refine wI (j := 0) rfl rfl (by simp) rfl ?_|refine JO_loadAL (yI e) rfl (fun i u hu => xG (n := 1) (cap := a2) (j := 0) (by decide) (by simpa using hu)) rfl rfl ?_|refine xJ rfl c6 rfl (fun b6 g6 => ?_) (fun g6 => yW (by rw [e0];simp only [g1,g2,g3,g4,g6,wC,xZ,catO_none,catO_none',catO_some,xK,List.append_assoc,List.append_nil,List.nil_append])))))
    all_goals exact uP rfl (show wJ _ = some (b1 ++ (b2 ++ (b3 ++ (b4 ++ (b6))))) by rw [e0];simp only [g1,g2,g3,g4,g6,wC,xZ,catO_none,catO_none',catO_some,xK,List.append_assoc,List.append_nil,List.nil_append]) (by simp) Ent.sel
set_option maxHeartbeats 2000000 in
theorem node20_c (hpre : pre.length + (100 + costs (fun _ => 20) next) ≤ 880000) : Ct Tryz.prog 53 #[lay w,.agg (xR ⟨2,prio,false,pay,next,a⟩).toArray] [WrB w pre,Vw 2 (slc a next.length) next.length (next.flatMap yI)] (OutP (wJ ⟨2,prio,false,pay,next,a⟩) w pre [Vw 2 (slc a next.length) next.length (next.flatMap yI)]) := by
    refine yE (vs := [lay w,.agg [.int .i64 2,.int .i64 prio,.bool false,.int .i64 pay.1,.int .i64 pay.2,slc a next.length].toArray]) Tryz.func53 rfl Tryz.ntmps53 (by simp) ?_
    have e0 : wJ ⟨2,prio,false,pay,next,a⟩ = xM (wK 2 5) (xM (wV (pay.1 == 0 && pay.2 == 0)) (xM (wK prio 1000) (xM (flagO false) (xM (some []) (oneO next))))) := by simp [wJ,payOk]
    repeat (first|(first|refine zB ?_|refine zE ?_|refine zG ?_)|(first|((first|refine zA rfl ?_);first|refine xI rfl (by simp) rfl ?_|refine zF rfl rfl ?_|refine zH rfl rfl ?_|refine yN rfl rfl (fun r => ?_))))
    have c1 := uG w pre 2 5 (by (try simp only [List.length_append]);omega) (by decide)
    refine zA rfl (xJ rfl c1 rfl (fun b1 g1 => ?_) (fun g1 => yW (by rw [e0];simp only [g1,wC,xZ,catO_none,catO_none',catO_some,xK,List.append_assoc,List.append_nil,List.nil_append])))
    have l1 := vA g1 (by decide)
    repeat (first|(first|refine zB ?_|refine zE ?_|refine zG ?_)|(first|((first|refine zA rfl ?_|refine zZ rfl rfl ?_);first|refine JOq (vS rfl rfl (by omega)) rfl ?_|refine zD rfl rfl ?_|refine zC rfl rfl ?_|refine zF rfl rfl ?_|refine zH rfl rfl ?_|refine yA rfl rfl rfl ?_)|refine yU rfl rfl rfl ?_))
    refine zA rfl (wN rfl (xY true) rfl (fun _ => ?_) (fun h => absurd h (by decide)))
    repeat (first|(first|refine zB ?_|refine zE ?_|refine zG ?_)|(first|((first|refine zA rfl ?_|refine zZ rfl rfl ?_);first|refine JOq (JQ_eqAgg rfl rfl (eq_ii pay.1 pay.2 0 0 9998)) rfl ?_|refine yG (cs := yI (0,0)) rfl rfl rfl ?_|refine xI rfl (by simp) rfl ?_|refine zD rfl rfl ?_|refine zF rfl rfl ?_|refine zH rfl rfl ?_|refine yJ rfl rfl rfl ?_)))
    refine zA rfl (wN rfl (xY _) rfl (fun g2 => ?_) (fun g2 => yW (by rw [e0];simp only [g1,g2,wC,xZ,catO_none,catO_none',catO_some,xK,List.append_assoc,List.append_nil,List.nil_append])))
    repeat (first|(first|refine zB ?_|refine zE ?_|refine zG ?_|refine zL rfl ?_)|(first|((first|refine zA rfl ?_);first|refine xI rfl (by simp) rfl ?_|refine zD rfl rfl ?_|refine zF rfl rfl ?_|refine zH rfl rfl ?_)))
    have c3 := uG w (pre ++ b1) prio 1000 (by (try simp only [List.length_append]);omega) (by decide)
    refine zA rfl (xJ rfl c3 rfl (fun b3 g3 => ?_) (fun g3 => yW (by rw [e0];simp only [g1,g2,g3,wC,xZ,catO_none,catO_none',catO_some,xK,List.append_assoc,List.append_nil,List.nil_append])))
    have l3 := vA g3 (by decide)
    repeat (first|(first|refine zB ?_|refine zE ?_|refine zG ?_|refine zK ?_|refine zL rfl ?_|refine zJ rfl ?_)|(first|((first|refine zA rfl ?_);first|refine JOq (yT rfl rfl (by omega)) rfl ?_|refine JOq (yL rfl rfl (by omega)) rfl ?_|refine xI rfl (by simp) rfl ?_|refine zC rfl rfl ?_|refine zF rfl rfl ?_|refine zH rfl rfl ?_)))
    have c4 := flag11_c w ((pre ++ b1) ++ b3) false (by (try simp only [List.length_append]);omega)
    refine zA rfl (xJ rfl c4 rfl (fun b4 g4 => ?_) (fun g4 => yW (by rw [e0];simp only [g1,g2,g3,g4,wC,xZ,catO_none,catO_none',catO_some,xK,List.append_assoc,List.append_nil,List.nil_append])))
    have l4 := flagO_len g4
    repeat (first|(first|refine zB ?_|refine zE ?_|refine zG ?_|refine zK ?_|refine zP ?_|refine zJ rfl ?_)|(first|((first|refine zA rfl ?_);first|refine JOq (yL rfl rfl (by omega)) rfl ?_|refine zC rfl rfl ?_|refine yF rfl rfl ?_|refine zF rfl rfl ?_|refine zH rfl rfl ?_|refine JO_eqI rfl rfl rfl ?_)))
    refine zA rfl (wN rfl (xY _) rfl (fun g5 => ?_) (fun g5 => yW (by rw [e0,oneO_no g5];simp only [g1,g2,g3,g4,wC,xZ,catO_none,catO_none',catO_some,xK,List.append_assoc,List.append_nil,List.nil_append])))
    obtain ⟨e,rfl⟩ := one_of g5
    repeat (first|(first|refine zE ?_)|(first|((first|refine zA rfl ?_);first|refine JOq (yH rfl rfl (by omega)) rfl ?_)))
    refine wQ (Vw 2 (slc a 1) 1 ([e].flatMap yI)) ?_
    refine wE (φ := ∃ b o,a.1 = some ⟨b,o,none⟩) (fun F w hs => hs.tail.out (fun k hk => xW (by decide) k hk)) (fun hp => ?_)
    obtain ⟨a1,a2⟩ := a
    dsimp only at hp
    obtain ⟨b,o,rfl⟩ := hp
    rw [show oneO [e] = xV e from rfl] at e0
    have c6 := edge11_c w (((pre ++ b1) ++ b3) ++ b4) e (by (try simp only [List.length_append]);omega)
    repeat' (first|refine J_regionD ?_|refine JA_end rfl ?_|refine JA_step rfl ?_|exact jal_nil|refine jal_no rfl ?_|refine jal_yes rfl ?_ ?_|(first|((first|refine JA_op rfl rfl ?_);first|refine zF rfl rfl ?_|refine zH rfl rfl ?_|refine zU rfl (by rfl) rfl ?_|refine wI (j := 0) rfl rfl (by simp) rfl ?_|refine JO_loadAL (yI e) rfl (fun i u hu => xG (n := 1) (cap := a2) (j := 0) (by decide) (by simpa using hu)) rfl rfl ?_|refine xJ rfl c6 rfl (fun b6 g6 => ?_) (fun g6 => yW (by rw [e0];simp only [g1,g2,g3,g4,g6,wC,xZ,catO_none,catO_none',catO_some,xK,List.append_assoc,List.append_nil,List.nil_append])))))
    all_goals exact uP rfl (show wJ _ = some (b1 ++ (b3 ++ (b4 ++ (b6)))) by rw [e0];simp only [g1,g2,g3,g4,g6,wC,xZ,catO_none,catO_none',catO_some,xK,List.append_assoc,List.append_nil,List.nil_append]) (by simp) Ent.sel
set_option maxHeartbeats 2000000 in
theorem node21_c (hpre : pre.length + (100 + costs (fun _ => 20) next) ≤ 880000) : Ct Tryz.prog 53 #[lay w,.agg (xR ⟨2,prio,true,pay,next,a⟩).toArray] [WrB w pre,Vw 2 (slc a next.length) next.length (next.flatMap yI)] (OutP (wJ ⟨2,prio,true,pay,next,a⟩) w pre [Vw 2 (slc a next.length) next.length (next.flatMap yI)]) := by
    refine yE (vs := [lay w,.agg [.int .i64 2,.int .i64 prio,.bool true,.int .i64 pay.1,.int .i64 pay.2,slc a next.length].toArray]) Tryz.func53 rfl Tryz.ntmps53 (by simp) ?_
    have e0 : wJ ⟨2,prio,true,pay,next,a⟩ = xM (wK 2 5) (xM (wV true) (xM (wK prio 1000) (xM (flagO true) (xM (xV pay) (oneO next))))) := by simp [wJ,payOk]
    repeat (first|(first|refine zB ?_|refine zE ?_|refine zG ?_)|(first|((first|refine zA rfl ?_);first|refine xI rfl (by simp) rfl ?_|refine zF rfl rfl ?_|refine zH rfl rfl ?_|refine yN rfl rfl (fun r => ?_))))
    have c1 := uG w pre 2 5 (by (try simp only [List.length_append]);omega) (by decide)
    refine zA rfl (xJ rfl c1 rfl (fun b1 g1 => ?_) (fun g1 => yW (by rw [e0];simp only [g1,wC,xZ,catO_none,catO_none',catO_some,xK,List.append_assoc,List.append_nil,List.nil_append])))
    have l1 := vA g1 (by decide)
    repeat (first|(first|refine zB ?_|refine zE ?_|refine zG ?_)|(first|((first|refine zA rfl ?_|refine zZ rfl rfl ?_);first|refine JOq (vS rfl rfl (by omega)) rfl ?_|refine zD rfl rfl ?_|refine zC rfl rfl ?_|refine zF rfl rfl ?_|refine zH rfl rfl ?_|refine yA rfl rfl rfl ?_)|refine yU rfl rfl rfl ?_))
    refine zA rfl (wN rfl (xY true) rfl (fun _ => ?_) (fun h => absurd h (by decide)))
    repeat (first|(first|refine zB ?_|refine zE ?_|refine zG ?_)|(first|((first|refine zA rfl ?_);first|refine zD rfl rfl ?_|refine zF rfl rfl ?_|refine zH rfl rfl ?_|refine yA rfl rfl rfl ?_)|refine yU rfl rfl rfl ?_))
    refine zA rfl (wN rfl (xY true) rfl (fun _ => ?_) (fun h => absurd h (by decide)))
    repeat (first|(first|refine zB ?_|refine zE ?_|refine zG ?_|refine zL rfl ?_)|(first|((first|refine zA rfl ?_);first|refine xI rfl (by simp) rfl ?_|refine zD rfl rfl ?_|refine zF rfl rfl ?_|refine zH rfl rfl ?_)))
    have c2 := uG w (pre ++ b1) prio 1000 (by (try simp only [List.length_append]);omega) (by decide)
    refine zA rfl (xJ rfl c2 rfl (fun b2 g2 => ?_) (fun g2 => yW (by rw [e0];simp only [g1,g2,wC,xZ,catO_none,catO_none',catO_some,xK,List.append_assoc,List.append_nil,List.nil_append])))
    have l2 := vA g2 (by decide)
    repeat (first|(first|refine zB ?_|refine zE ?_|refine zG ?_|refine zK ?_|refine zL rfl ?_|refine zJ rfl ?_)|(first|((first|refine zA rfl ?_);first|refine JOq (yT rfl rfl (by omega)) rfl ?_|refine JOq (yL rfl rfl (by omega)) rfl ?_|refine xI rfl (by simp) rfl ?_|refine zC rfl rfl ?_|refine zF rfl rfl ?_|refine zH rfl rfl ?_)))
    have c3 := flag11_c w ((pre ++ b1) ++ b2) true (by (try simp only [List.length_append]);omega)
    refine zA rfl (xJ rfl c3 rfl (fun b3 g3 => ?_) (fun g3 => yW (by rw [e0];simp only [g1,g2,g3,wC,xZ,catO_none,catO_none',catO_some,xK,List.append_assoc,List.append_nil,List.nil_append])))
    have l3 := flagO_len g3
    repeat (first|(first|refine zB ?_|refine zE ?_|refine zG ?_|refine zL rfl ?_)|(first|((first|refine zA rfl ?_);first|refine xI rfl (by simp) rfl ?_|refine zF rfl rfl ?_|refine zH rfl rfl ?_)))
    have c4 := edge11_c w (((pre ++ b1) ++ b2) ++ b3) pay (by (try simp only [List.length_append]);omega)
    refine zA rfl (xJ rfl c4 rfl (fun b4 g4 => ?_) (fun g4 => yW (by rw [e0];simp only [g1,g2,g3,g4,wC,xZ,catO_none,catO_none',catO_some,xK,List.append_assoc,List.append_nil,List.nil_append])))
    have l4 := vL g4
    repeat (first|(first|refine zB ?_|refine zE ?_|refine zG ?_|refine zK ?_|refine zJ rfl ?_)|(first|((first|refine zA rfl ?_);first|refine JOq (yL rfl rfl (by omega)) rfl ?_|refine zC rfl rfl ?_|refine yF rfl rfl ?_|refine zF rfl rfl ?_|refine zH rfl rfl ?_|refine JO_eqI rfl rfl rfl ?_)))
    refine zA rfl (wN rfl (xY _) rfl (fun g5 => ?_) (fun g5 => yW (by rw [e0,oneO_no g5];simp only [g1,g2,g3,g4,wC,xZ,catO_none,catO_none',catO_some,xK,List.append_assoc,List.append_nil,List.nil_append])))
    obtain ⟨e,rfl⟩ := one_of g5
    repeat (first|(first|refine zE ?_)|(first|((first|refine zA rfl ?_);first|refine JOq (yH rfl rfl (by omega)) rfl ?_)))
    refine wQ (Vw 2 (slc a 1) 1 ([e].flatMap yI)) ?_
    refine wE (φ := ∃ b o,a.1 = some ⟨b,o,none⟩) (fun F w hs => hs.tail.out (fun k hk => xW (by decide) k hk)) (fun hp => ?_)
    obtain ⟨a1,a2⟩ := a
    dsimp only at hp
    obtain ⟨b,o,rfl⟩ := hp
    rw [show oneO [e] = xV e from rfl] at e0
    have c6 := edge11_c w ((((pre ++ b1) ++ b2) ++ b3) ++ b4) e (by (try simp only [List.length_append]);omega)
    repeat' (first|refine J_regionD ?_|refine JA_end rfl ?_|refine JA_step rfl ?_|exact jal_nil|refine jal_no rfl ?_|refine jal_yes rfl ?_ ?_|(first|((first|refine JA_op rfl rfl ?_);first|refine zF rfl rfl ?_|refine zH rfl rfl ?_|refine zU rfl (by rfl) rfl ?_|refine wI (j := 0) rfl rfl (by simp) rfl ?_|refine JO_loadAL (yI e) rfl (fun i u hu => xG (n := 1) (cap := a2) (j := 0) (by decide) (by simpa using hu)) rfl rfl ?_|refine xJ rfl c6 rfl (fun b6 g6 => ?_) (fun g6 => yW (by rw [e0];simp only [g1,g2,g3,g4,g6,wC,xZ,catO_none,catO_none',catO_some,xK,List.append_assoc,List.append_nil,List.nil_append])))))
    all_goals exact uP rfl (show wJ _ = some (b1 ++ (b2 ++ (b3 ++ (b4 ++ (b6))))) by rw [e0];simp only [g1,g2,g3,g4,g6,wC,xZ,catO_none,catO_none',catO_some,xK,List.append_assoc,List.append_nil,List.nil_append]) (by simp) Ent.sel
set_option maxHeartbeats 2000000 in
theorem node30_c (hpre : pre.length + (100 + costs (fun _ => 20) next) ≤ 880000) : Ct Tryz.prog 53 #[lay w,.agg (xR ⟨3,prio,false,pay,next,a⟩).toArray] [WrB w pre,Vw 2 (slc a next.length) next.length (next.flatMap yI)] (OutP (wJ ⟨3,prio,false,pay,next,a⟩) w pre [Vw 2 (slc a next.length) next.length (next.flatMap yI)]) := by
    refine yE (vs := [lay w,.agg [.int .i64 3,.int .i64 prio,.bool false,.int .i64 pay.1,.int .i64 pay.2,slc a next.length].toArray]) Tryz.func53 rfl Tryz.ntmps53 (by simp) ?_
    have e0 : wJ ⟨3,prio,false,pay,next,a⟩ = xM (wK 3 5) (xM (wV (pay.1 == 0 && pay.2 == 0)) (xM (wK prio 1000) (xM (wV true) (wH 1 8 xV next)))) := by simp [wJ,payOk]
    repeat (first|(first|refine zB ?_|refine zE ?_|refine zG ?_)|(first|((first|refine zA rfl ?_);first|refine xI rfl (by simp) rfl ?_|refine zF rfl rfl ?_|refine zH rfl rfl ?_|refine yN rfl rfl (fun r => ?_))))
    have c1 := uG w pre 3 5 (by (try simp only [List.length_append]);omega) (by decide)
    refine zA rfl (xJ rfl c1 rfl (fun b1 g1 => ?_) (fun g1 => yW (by rw [e0];simp only [g1,wC,xZ,catO_none,catO_none',catO_some,xK,List.append_assoc,List.append_nil,List.nil_append])))
    have l1 := vA g1 (by decide)
    repeat (first|(first|refine zB ?_|refine zE ?_|refine zG ?_)|(first|((first|refine zA rfl ?_|refine zZ rfl rfl ?_);first|refine JOq (vS rfl rfl (by omega)) rfl ?_|refine zD rfl rfl ?_|refine zC rfl rfl ?_|refine zF rfl rfl ?_|refine zH rfl rfl ?_|refine yA rfl rfl rfl ?_)|refine yU rfl rfl rfl ?_))
    refine zA rfl (wN rfl (xY true) rfl (fun _ => ?_) (fun h => absurd h (by decide)))
    repeat (first|(first|refine zB ?_|refine zE ?_|refine zG ?_)|(first|((first|refine zA rfl ?_|refine zZ rfl rfl ?_);first|refine JOq (JQ_eqAgg rfl rfl (eq_ii pay.1 pay.2 0 0 9998)) rfl ?_|refine yG (cs := yI (0,0)) rfl rfl rfl ?_|refine xI rfl (by simp) rfl ?_|refine zD rfl rfl ?_|refine zF rfl rfl ?_|refine zH rfl rfl ?_|refine yJ rfl rfl rfl ?_)))
    refine zA rfl (wN rfl (xY _) rfl (fun g2 => ?_) (fun g2 => yW (by rw [e0];simp only [g1,g2,wC,xZ,catO_none,catO_none',catO_some,xK,List.append_assoc,List.append_nil,List.nil_append])))
    repeat (first|(first|refine zB ?_|refine zE ?_|refine zG ?_|refine zL rfl ?_)|(first|((first|refine zA rfl ?_);first|refine xI rfl (by simp) rfl ?_|refine zD rfl rfl ?_|refine zF rfl rfl ?_|refine zH rfl rfl ?_)))
    have c3 := uG w (pre ++ b1) prio 1000 (by (try simp only [List.length_append]);omega) (by decide)
    refine zA rfl (xJ rfl c3 rfl (fun b3 g3 => ?_) (fun g3 => yW (by rw [e0];simp only [g1,g2,g3,wC,xZ,catO_none,catO_none',catO_some,xK,List.append_assoc,List.append_nil,List.nil_append])))
    have l3 := vA g3 (by decide)
    repeat (first|(first|refine zB ?_|refine zE ?_|refine zG ?_|refine zK ?_|refine zJ rfl ?_)|(first|((first|refine zA rfl ?_);first|refine JOq (yL rfl rfl (by omega)) rfl ?_|refine xD rfl rfl ?_|refine zC rfl rfl ?_|refine zF rfl rfl ?_|refine zH rfl rfl ?_|refine xD rfl rfl ?_)))
    refine zA rfl (wN rfl (xY true) rfl (fun _ => ?_) (fun h => absurd h (by decide)))
    repeat (first|(first|refine zB ?_|refine zE ?_|refine zG ?_|refine zK ?_|refine zP ?_|refine zL rfl ?_|refine zJ rfl ?_)|(first|((first|refine zA rfl ?_);first|refine JOq (yT rfl rfl (by omega)) rfl ?_|refine JOq (yL rfl rfl (by omega)) rfl ?_|refine xI rfl (by simp) rfl ?_|refine zC rfl rfl ?_|refine zF rfl rfl ?_|refine zH rfl rfl ?_|refine wP rfl rfl rfl ?_)))
    refine JL_heap emp_in ?_
    have c4 := listedEdge_c yI xV (fun _ => 20) (f := 111) [lay w] [] Emp (fun _ => rfl) edge_one (fun _ _ h => vL h) w next (fun x _ p hp => ct_emp (edge11_c w p x (by omega))) a 1 8 (by decide) ((pre ++ b1) ++ b3) (by (try simp only [List.length_append]);omega)
    refine zA rfl (xJ rfl c4 rfl (fun b4 g4 => ?_) (fun g4 => yW (by rw [e0];simp only [g1,g2,g3,g4,wC,xZ,catO_none,catO_none',catO_some,xK,List.append_assoc,List.append_nil,List.nil_append])))
    have l4 := listO_len (by decide) (fun _ _ h => vL h) g4
    repeat (first|(first|refine zE ?_)|(first|((first|refine zA rfl ?_);first|refine JOq (yH rfl rfl (by omega)) rfl ?_)))
    exact uP rfl (show wJ _ = some (b1 ++ (b3 ++ (b4))) by rw [e0];simp only [g1,g2,g3,g4,wC,xZ,catO_none,catO_none',catO_some,xK,List.append_assoc,List.append_nil,List.nil_append]) (by simp) Ent.sel
set_option maxHeartbeats 2000000 in
theorem node31_c (hpre : pre.length + (100 + costs (fun _ => 20) next) ≤ 880000) : Ct Tryz.prog 53 #[lay w,.agg (xR ⟨3,prio,true,pay,next,a⟩).toArray] [WrB w pre,Vw 2 (slc a next.length) next.length (next.flatMap yI)] (OutP (wJ ⟨3,prio,true,pay,next,a⟩) w pre [Vw 2 (slc a next.length) next.length (next.flatMap yI)]) := by
    refine yE (vs := [lay w,.agg [.int .i64 3,.int .i64 prio,.bool true,.int .i64 pay.1,.int .i64 pay.2,slc a next.length].toArray]) Tryz.func53 rfl Tryz.ntmps53 (by simp) ?_
    have e0 : wJ ⟨3,prio,true,pay,next,a⟩ = xM (wK 3 5) (xM (wV true) (xM (wK prio 1000) (xM (wV false) (wH 1 8 xV next)))) := by simp [wJ,payOk]
    repeat (first|(first|refine zB ?_|refine zE ?_|refine zG ?_)|(first|((first|refine zA rfl ?_);first|refine xI rfl (by simp) rfl ?_|refine zF rfl rfl ?_|refine zH rfl rfl ?_|refine yN rfl rfl (fun r => ?_))))
    have c1 := uG w pre 3 5 (by (try simp only [List.length_append]);omega) (by decide)
    refine zA rfl (xJ rfl c1 rfl (fun b1 g1 => ?_) (fun g1 => yW (by rw [e0];simp only [g1,wC,xZ,catO_none,catO_none',catO_some,xK,List.append_assoc,List.append_nil,List.nil_append])))
    have l1 := vA g1 (by decide)
    repeat (first|(first|refine zB ?_|refine zE ?_|refine zG ?_)|(first|((first|refine zA rfl ?_|refine zZ rfl rfl ?_);first|refine JOq (vS rfl rfl (by omega)) rfl ?_|refine zD rfl rfl ?_|refine zC rfl rfl ?_|refine zF rfl rfl ?_|refine zH rfl rfl ?_|refine yA rfl rfl rfl ?_)|refine yU rfl rfl rfl ?_))
    refine zA rfl (wN rfl (xY true) rfl (fun _ => ?_) (fun h => absurd h (by decide)))
    repeat (first|(first|refine zB ?_|refine zE ?_|refine zG ?_)|(first|((first|refine zA rfl ?_);first|refine zD rfl rfl ?_|refine zF rfl rfl ?_|refine zH rfl rfl ?_|refine yA rfl rfl rfl ?_)|refine yU rfl rfl rfl ?_))
    refine zA rfl (wN rfl (xY true) rfl (fun _ => ?_) (fun h => absurd h (by decide)))
    repeat (first|(first|refine zB ?_|refine zE ?_|refine zG ?_|refine zL rfl ?_)|(first|((first|refine zA rfl ?_);first|refine xI rfl (by simp) rfl ?_|refine zD rfl rfl ?_|refine zF rfl rfl ?_|refine zH rfl rfl ?_)))
    have c2 := uG w (pre ++ b1) prio 1000 (by (try simp only [List.length_append]);omega) (by decide)
    refine zA rfl (xJ rfl c2 rfl (fun b2 g2 => ?_) (fun g2 => yW (by rw [e0];simp only [g1,g2,wC,xZ,catO_none,catO_none',catO_some,xK,List.append_assoc,List.append_nil,List.nil_append])))
    have l2 := vA g2 (by decide)
    repeat (first|(first|refine zB ?_|refine zE ?_|refine zG ?_|refine zK ?_|refine zJ rfl ?_)|(first|((first|refine zA rfl ?_);first|refine JOq (yL rfl rfl (by omega)) rfl ?_|refine xD rfl rfl ?_|refine zC rfl rfl ?_|refine zF rfl rfl ?_|refine zH rfl rfl ?_|refine xD rfl rfl ?_)))
    refine zA rfl (wN rfl (xY false) rfl (fun h => absurd h (by decide)) (fun _ => yW (by rw [e0];simp only [g1,g2,wC,xZ,catO_none,catO_none',catO_some,xK,List.append_assoc,List.append_nil,List.nil_append])))
set_option maxHeartbeats 2000000 in
theorem node40_c (hpre : pre.length + (100 + costs (fun _ => 20) next) ≤ 880000) : Ct Tryz.prog 53 #[lay w,.agg (xR ⟨4,prio,false,pay,next,a⟩).toArray] [WrB w pre,Vw 2 (slc a next.length) next.length (next.flatMap yI)] (OutP (wJ ⟨4,prio,false,pay,next,a⟩) w pre [Vw 2 (slc a next.length) next.length (next.flatMap yI)]) := by
    refine yE (vs := [lay w,.agg [.int .i64 4,.int .i64 prio,.bool false,.int .i64 pay.1,.int .i64 pay.2,slc a next.length].toArray]) Tryz.func53 rfl Tryz.ntmps53 (by simp) ?_
    have e0 : wJ ⟨4,prio,false,pay,next,a⟩ = xM (wK 4 5) (xM (wV (pay.1 == 0 && pay.2 == 0)) (xM (wK prio 1000) (xM (wV true) (wH 1 8 xV next)))) := by simp [wJ,payOk]
    repeat (first|(first|refine zB ?_|refine zE ?_|refine zG ?_)|(first|((first|refine zA rfl ?_);first|refine xI rfl (by simp) rfl ?_|refine zF rfl rfl ?_|refine zH rfl rfl ?_|refine yN rfl rfl (fun r => ?_))))
    have c1 := uG w pre 4 5 (by (try simp only [List.length_append]);omega) (by decide)
    refine zA rfl (xJ rfl c1 rfl (fun b1 g1 => ?_) (fun g1 => yW (by rw [e0];simp only [g1,wC,xZ,catO_none,catO_none',catO_some,xK,List.append_assoc,List.append_nil,List.nil_append])))
    have l1 := vA g1 (by decide)
    repeat (first|(first|refine zB ?_|refine zE ?_|refine zG ?_)|(first|((first|refine zA rfl ?_|refine zZ rfl rfl ?_);first|refine JOq (vS rfl rfl (by omega)) rfl ?_|refine zD rfl rfl ?_|refine zC rfl rfl ?_|refine zF rfl rfl ?_|refine zH rfl rfl ?_|refine yA rfl rfl rfl ?_)|refine yU rfl rfl rfl ?_))
    refine zA rfl (wN rfl (xY true) rfl (fun _ => ?_) (fun h => absurd h (by decide)))
    repeat (first|(first|refine zB ?_|refine zE ?_|refine zG ?_)|(first|((first|refine zA rfl ?_|refine zZ rfl rfl ?_);first|refine JOq (JQ_eqAgg rfl rfl (eq_ii pay.1 pay.2 0 0 9998)) rfl ?_|refine yG (cs := yI (0,0)) rfl rfl rfl ?_|refine xI rfl (by simp) rfl ?_|refine zD rfl rfl ?_|refine zF rfl rfl ?_|refine zH rfl rfl ?_|refine yJ rfl rfl rfl ?_)))
    refine zA rfl (wN rfl (xY _) rfl (fun g2 => ?_) (fun g2 => yW (by rw [e0];simp only [g1,g2,wC,xZ,catO_none,catO_none',catO_some,xK,List.append_assoc,List.append_nil,List.nil_append])))
    repeat (first|(first|refine zB ?_|refine zE ?_|refine zG ?_|refine zL rfl ?_)|(first|((first|refine zA rfl ?_);first|refine xI rfl (by simp) rfl ?_|refine zD rfl rfl ?_|refine zF rfl rfl ?_|refine zH rfl rfl ?_)))
    have c3 := uG w (pre ++ b1) prio 1000 (by (try simp only [List.length_append]);omega) (by decide)
    refine zA rfl (xJ rfl c3 rfl (fun b3 g3 => ?_) (fun g3 => yW (by rw [e0];simp only [g1,g2,g3,wC,xZ,catO_none,catO_none',catO_some,xK,List.append_assoc,List.append_nil,List.nil_append])))
    have l3 := vA g3 (by decide)
    repeat (first|(first|refine zB ?_|refine zE ?_|refine zG ?_|refine zK ?_|refine zJ rfl ?_)|(first|((first|refine zA rfl ?_);first|refine JOq (yL rfl rfl (by omega)) rfl ?_|refine xD rfl rfl ?_|refine zC rfl rfl ?_|refine zF rfl rfl ?_|refine zH rfl rfl ?_|refine xD rfl rfl ?_)))
    refine zA rfl (wN rfl (xY true) rfl (fun _ => ?_) (fun h => absurd h (by decide)))
    repeat (first|(first|refine zB ?_|refine zE ?_|refine zG ?_|refine zK ?_|refine zL rfl ?_|refine zJ rfl ?_)|(first|((first|refine zA rfl ?_);first|refine JOq (yT rfl rfl (by omega)) rfl ?_|refine JOq (yL rfl rfl (by omega)) rfl ?_|refine xI rfl (by simp) rfl ?_|refine zC rfl rfl ?_|refine zF rfl rfl ?_|refine zH rfl rfl ?_|refine wP rfl rfl rfl ?_)))
    refine JL_heap emp_in ?_
    have c4 := listedEdge_c yI xV (fun _ => 20) (f := 111) [lay w] [] Emp (fun _ => rfl) edge_one (fun _ _ h => vL h) w next (fun x _ p hp => ct_emp (edge11_c w p x (by omega))) a 1 8 (by decide) ((pre ++ b1) ++ b3) (by (try simp only [List.length_append]);omega)
    refine zA rfl (xJ rfl c4 rfl (fun b4 g4 => ?_) (fun g4 => yW (by rw [e0];simp only [g1,g2,g3,g4,wC,xZ,catO_none,catO_none',catO_some,xK,List.append_assoc,List.append_nil,List.nil_append])))
    have l4 := listO_len (by decide) (fun _ _ h => vL h) g4
    repeat (first|(first|refine zE ?_)|(first|((first|refine zA rfl ?_);first|refine JOq (yH rfl rfl (by omega)) rfl ?_)))
    exact uP rfl (show wJ _ = some (b1 ++ (b3 ++ (b4))) by rw [e0];simp only [g1,g2,g3,g4,wC,xZ,catO_none,catO_none',catO_some,xK,List.append_assoc,List.append_nil,List.nil_append]) (by simp) Ent.sel
set_option maxHeartbeats 2000000 in
theorem node41_c (hpre : pre.length + (100 + costs (fun _ => 20) next) ≤ 880000) : Ct Tryz.prog 53 #[lay w,.agg (xR ⟨4,prio,true,pay,next,a⟩).toArray] [WrB w pre,Vw 2 (slc a next.length) next.length (next.flatMap yI)] (OutP (wJ ⟨4,prio,true,pay,next,a⟩) w pre [Vw 2 (slc a next.length) next.length (next.flatMap yI)]) := by
    refine yE (vs := [lay w,.agg [.int .i64 4,.int .i64 prio,.bool true,.int .i64 pay.1,.int .i64 pay.2,slc a next.length].toArray]) Tryz.func53 rfl Tryz.ntmps53 (by simp) ?_
    have e0 : wJ ⟨4,prio,true,pay,next,a⟩ = xM (wK 4 5) (xM (wV true) (xM (wK prio 1000) (xM (wV false) (wH 1 8 xV next)))) := by simp [wJ,payOk]
    repeat (first|(first|refine zB ?_|refine zE ?_|refine zG ?_)|(first|((first|refine zA rfl ?_);first|refine xI rfl (by simp) rfl ?_|refine zF rfl rfl ?_|refine zH rfl rfl ?_|refine yN rfl rfl (fun r => ?_))))
    have c1 := uG w pre 4 5 (by (try simp only [List.length_append]);omega) (by decide)
    refine zA rfl (xJ rfl c1 rfl (fun b1 g1 => ?_) (fun g1 => yW (by rw [e0];simp only [g1,wC,xZ,catO_none,catO_none',catO_some,xK,List.append_assoc,List.append_nil,List.nil_append])))
    have l1 := vA g1 (by decide)
    repeat (first|(first|refine zB ?_|refine zE ?_|refine zG ?_)|(first|((first|refine zA rfl ?_|refine zZ rfl rfl ?_);first|refine JOq (vS rfl rfl (by omega)) rfl ?_|refine zD rfl rfl ?_|refine zC rfl rfl ?_|refine zF rfl rfl ?_|refine zH rfl rfl ?_|refine yA rfl rfl rfl ?_)|refine yU rfl rfl rfl ?_))
    refine zA rfl (wN rfl (xY true) rfl (fun _ => ?_) (fun h => absurd h (by decide)))
    repeat (first|(first|refine zB ?_|refine zE ?_|refine zG ?_)|(first|((first|refine zA rfl ?_);first|refine zD rfl rfl ?_|refine zF rfl rfl ?_|refine zH rfl rfl ?_|refine yA rfl rfl rfl ?_)|refine yU rfl rfl rfl ?_))
    refine zA rfl (wN rfl (xY true) rfl (fun _ => ?_) (fun h => absurd h (by decide)))
    repeat (first|(first|refine zB ?_|refine zE ?_|refine zG ?_|refine zL rfl ?_)|(first|((first|refine zA rfl ?_);first|refine xI rfl (by simp) rfl ?_|refine zD rfl rfl ?_|refine zF rfl rfl ?_|refine zH rfl rfl ?_)))
    have c2 := uG w (pre ++ b1) prio 1000 (by (try simp only [List.length_append]);omega) (by decide)
    refine zA rfl (xJ rfl c2 rfl (fun b2 g2 => ?_) (fun g2 => yW (by rw [e0];simp only [g1,g2,wC,xZ,catO_none,catO_none',catO_some,xK,List.append_assoc,List.append_nil,List.nil_append])))
    have l2 := vA g2 (by decide)
    repeat (first|(first|refine zB ?_|refine zE ?_|refine zG ?_|refine zK ?_|refine zJ rfl ?_)|(first|((first|refine zA rfl ?_);first|refine JOq (yL rfl rfl (by omega)) rfl ?_|refine xD rfl rfl ?_|refine zC rfl rfl ?_|refine zF rfl rfl ?_|refine zH rfl rfl ?_|refine xD rfl rfl ?_)))
    refine zA rfl (wN rfl (xY false) rfl (fun h => absurd h (by decide)) (fun _ => yW (by rw [e0];simp only [g1,g2,wC,xZ,catO_none,catO_none',catO_some,xK,List.append_assoc,List.append_nil,List.nil_append])))
set_option maxHeartbeats 2000000 in
theorem node50_c (hpre : pre.length + (100 + costs (fun _ => 20) next) ≤ 880000) : Ct Tryz.prog 53 #[lay w,.agg (xR ⟨5,prio,false,pay,next,a⟩).toArray] [WrB w pre,Vw 2 (slc a next.length) next.length (next.flatMap yI)] (OutP (wJ ⟨5,prio,false,pay,next,a⟩) w pre [Vw 2 (slc a next.length) next.length (next.flatMap yI)]) := by
    refine yE (vs := [lay w,.agg [.int .i64 5,.int .i64 prio,.bool false,.int .i64 pay.1,.int .i64 pay.2,slc a next.length].toArray]) Tryz.func53 rfl Tryz.ntmps53 (by simp) ?_
    have e0 : wJ ⟨5,prio,false,pay,next,a⟩ = xM (wK 5 5) (xM (wV (decide (prio = 0))) (xM (wV (pay.1 == 0 && pay.2 == 0)) (xM (wV true) (oneO next)))) := by simp [wJ,payOk]
    repeat (first|(first|refine zB ?_|refine zE ?_|refine zG ?_)|(first|((first|refine zA rfl ?_);first|refine xI rfl (by simp) rfl ?_|refine zF rfl rfl ?_|refine zH rfl rfl ?_|refine yN rfl rfl (fun r => ?_))))
    have c1 := uG w pre 5 5 (by (try simp only [List.length_append]);omega) (by decide)
    refine zA rfl (xJ rfl c1 rfl (fun b1 g1 => ?_) (fun g1 => yW (by rw [e0];simp only [g1,wC,xZ,catO_none,catO_none',catO_some,xK,List.append_assoc,List.append_nil,List.nil_append])))
    have l1 := vA g1 (by decide)
    repeat (first|(first|refine zB ?_|refine zE ?_|refine zG ?_)|(first|((first|refine zA rfl ?_|refine zZ rfl rfl ?_);first|refine JOq (vS rfl rfl (by omega)) rfl ?_|refine JOq (vW rfl rfl (by omega)) rfl ?_|refine zD rfl rfl ?_|refine zC rfl rfl ?_|refine zF rfl rfl ?_|refine zH rfl rfl ?_|refine yA rfl rfl rfl ?_|refine yJ rfl rfl rfl ?_|refine JO_eqI rfl rfl rfl ?_)))
    refine zA rfl (wN rfl (xY _) rfl (fun g2 => ?_) (fun g2 => yW (by rw [e0];simp only [g1,g2,wC,xZ,catO_none,catO_none',catO_some,xK,List.append_assoc,List.append_nil,List.nil_append])))
    repeat (first|(first|refine zB ?_|refine zE ?_|refine zG ?_)|(first|((first|refine zA rfl ?_|refine zZ rfl rfl ?_);first|refine JOq (JQ_eqAgg rfl rfl (eq_ii pay.1 pay.2 0 0 9998)) rfl ?_|refine yG (cs := yI (0,0)) rfl rfl rfl ?_|refine xI rfl (by simp) rfl ?_|refine zD rfl rfl ?_|refine zF rfl rfl ?_|refine zH rfl rfl ?_|refine yJ rfl rfl rfl ?_)))
    refine zA rfl (wN rfl (xY _) rfl (fun g3 => ?_) (fun g3 => yW (by rw [e0];simp only [g1,g2,g3,wC,xZ,catO_none,catO_none',catO_some,xK,List.append_assoc,List.append_nil,List.nil_append])))
    repeat (first|(first|refine zB ?_|refine zE ?_|refine zG ?_|refine zK ?_|refine zP ?_|refine zJ rfl ?_)|(first|((first|refine zA rfl ?_);first|refine JOq (yL rfl rfl (by omega)) rfl ?_|refine xD rfl rfl ?_|refine zD rfl rfl ?_|refine zC rfl rfl ?_|refine zF rfl rfl ?_|refine zH rfl rfl ?_|refine xD rfl rfl ?_)))
    refine zA rfl (wN rfl (xY true) rfl (fun _ => ?_) (fun h => absurd h (by decide)))
    repeat (first|(first|refine zB ?_|refine zE ?_|refine zG ?_|refine zK ?_|refine zJ rfl ?_)|(first|((first|refine zA rfl ?_);first|refine JOq (yL rfl rfl (by omega)) rfl ?_|refine zC rfl rfl ?_|refine yF rfl rfl ?_|refine zF rfl rfl ?_|refine zH rfl rfl ?_|refine JO_eqI rfl rfl rfl ?_)))
    refine zA rfl (wN rfl (xY _) rfl (fun g4 => ?_) (fun g4 => yW (by rw [e0,oneO_no g4];simp only [g1,g2,g3,wC,xZ,catO_none,catO_none',catO_some,xK,List.append_assoc,List.append_nil,List.nil_append])))
    obtain ⟨e,rfl⟩ := one_of g4
    repeat (first|(first|refine zE ?_)|(first|((first|refine zA rfl ?_);first|refine JOq (yH rfl rfl (by omega)) rfl ?_)))
    refine wQ (Vw 2 (slc a 1) 1 ([e].flatMap yI)) ?_
    refine wE (φ := ∃ b o,a.1 = some ⟨b,o,none⟩) (fun F w hs => hs.tail.out (fun k hk => xW (by decide) k hk)) (fun hp => ?_)
    obtain ⟨a1,a2⟩ := a
    dsimp only at hp
    obtain ⟨b,o,rfl⟩ := hp
    rw [show oneO [e] = xV e from rfl] at e0
    have c5 := edge11_c w (pre ++ b1) e (by (try simp only [List.length_append]);omega)
    repeat' (first|refine J_regionD ?_|refine JA_end rfl ?_|refine JA_step rfl ?_|exact jal_nil|refine jal_no rfl ?_|refine jal_yes rfl ?_ ?_|(first|((first|refine JA_op rfl rfl ?_);first|refine zF rfl rfl ?_|refine zH rfl rfl ?_|refine zU rfl (by rfl) rfl ?_|refine wI (j := 0) rfl rfl (by simp) rfl ?_|refine JO_loadAL (yI e) rfl (fun i u hu => xG (n := 1) (cap := a2) (j := 0) (by decide) (by simpa using hu)) rfl rfl ?_|refine xJ rfl c5 rfl (fun b5 g5 => ?_) (fun g5 => yW (by rw [e0];simp only [g1,g2,g3,g5,wC,xZ,catO_none,catO_none',catO_some,xK,List.append_assoc,List.append_nil,List.nil_append])))))
    all_goals exact uP rfl (show wJ _ = some (b1 ++ (b5)) by rw [e0];simp only [g1,g2,g3,g5,wC,xZ,catO_none,catO_none',catO_some,xK,List.append_assoc,List.append_nil,List.nil_append]) (by simp) Ent.sel
set_option maxHeartbeats 2000000 in
theorem node51_c (hpre : pre.length + (100 + costs (fun _ => 20) next) ≤ 880000) : Ct Tryz.prog 53 #[lay w,.agg (xR ⟨5,prio,true,pay,next,a⟩).toArray] [WrB w pre,Vw 2 (slc a next.length) next.length (next.flatMap yI)] (OutP (wJ ⟨5,prio,true,pay,next,a⟩) w pre [Vw 2 (slc a next.length) next.length (next.flatMap yI)]) := by
    refine yE (vs := [lay w,.agg [.int .i64 5,.int .i64 prio,.bool true,.int .i64 pay.1,.int .i64 pay.2,slc a next.length].toArray]) Tryz.func53 rfl Tryz.ntmps53 (by simp) ?_
    have e0 : wJ ⟨5,prio,true,pay,next,a⟩ = xM (wK 5 5) (xM (wV (decide (prio = 0))) (xM (wV true) (xM (wV false) (oneO next)))) := by simp [wJ,payOk]
    repeat (first|(first|refine zB ?_|refine zE ?_|refine zG ?_)|(first|((first|refine zA rfl ?_);first|refine xI rfl (by simp) rfl ?_|refine zF rfl rfl ?_|refine zH rfl rfl ?_|refine yN rfl rfl (fun r => ?_))))
    have c1 := uG w pre 5 5 (by (try simp only [List.length_append]);omega) (by decide)
    refine zA rfl (xJ rfl c1 rfl (fun b1 g1 => ?_) (fun g1 => yW (by rw [e0];simp only [g1,wC,xZ,catO_none,catO_none',catO_some,xK,List.append_assoc,List.append_nil,List.nil_append])))
    have l1 := vA g1 (by decide)
    repeat (first|(first|refine zB ?_|refine zE ?_|refine zG ?_)|(first|((first|refine zA rfl ?_|refine zZ rfl rfl ?_);first|refine JOq (vS rfl rfl (by omega)) rfl ?_|refine JOq (vW rfl rfl (by omega)) rfl ?_|refine zD rfl rfl ?_|refine zC rfl rfl ?_|refine zF rfl rfl ?_|refine zH rfl rfl ?_|refine yA rfl rfl rfl ?_|refine yJ rfl rfl rfl ?_|refine JO_eqI rfl rfl rfl ?_)))
    refine zA rfl (wN rfl (xY _) rfl (fun g2 => ?_) (fun g2 => yW (by rw [e0];simp only [g1,g2,wC,xZ,catO_none,catO_none',catO_some,xK,List.append_assoc,List.append_nil,List.nil_append])))
    repeat (first|(first|refine zB ?_|refine zE ?_|refine zG ?_)|(first|((first|refine zA rfl ?_);first|refine zD rfl rfl ?_|refine zF rfl rfl ?_|refine zH rfl rfl ?_|refine yA rfl rfl rfl ?_)|refine yU rfl rfl rfl ?_))
    refine zA rfl (wN rfl (xY true) rfl (fun _ => ?_) (fun h => absurd h (by decide)))
    repeat (first|(first|refine zB ?_|refine zE ?_|refine zG ?_|refine zK ?_|refine zP ?_|refine zJ rfl ?_)|(first|((first|refine zA rfl ?_);first|refine JOq (yL rfl rfl (by omega)) rfl ?_|refine xD rfl rfl ?_|refine zD rfl rfl ?_|refine zC rfl rfl ?_|refine zF rfl rfl ?_|refine zH rfl rfl ?_|refine xD rfl rfl ?_)))
    refine zA rfl (wN rfl (xY false) rfl (fun h => absurd h (by decide)) (fun _ => yW (by rw [e0];simp only [g1,g2,wC,xZ,catO_none,catO_none',catO_some,xK,List.append_assoc,List.append_nil,List.nil_append])))
end
end Go.Proofs.YtickblndgihoeaaGreatDoor
