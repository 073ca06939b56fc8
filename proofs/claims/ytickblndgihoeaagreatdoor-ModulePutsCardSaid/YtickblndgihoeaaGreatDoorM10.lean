/- Layer 11: laying nodes. -/
import Derived.Test.YtickblndgihoeaaGreatDoorM8
import Derived.Test.YtickblndgihoeaaGreatDoorM9
set_option linter.unusedSimpArgs false
namespace Go.Proofs.YtickblndgihoeaaGreatDoor
open Go Go.Sp
structure Nod where
  kind : Int
  prio : Int
  ch : Bool
  pay : Int × Int
  next : List (Int × Int)
  a : SA
abbrev wI (n : Nod) : List Value := [.int .i64 n.kind,.int .i64 n.prio,.bool n.ch,.int .i64 n.pay.1,.int .i64 n.pay.2,slc n.a n.next.length]
def payOk (n : Nod) : Bool := n.ch || (n.pay.1 == 0 && n.pay.2 == 0)
def oneO : List (Int × Int) → OB
  | [e] => xB e
  | _ => none
def xS (n : Nod) : OB :=
  if n.kind = 0 then yY (xT 0 5) (yY (xR (decide (n.prio = 0))) (yY (xR (payOk n)) (yY (xR (!n.ch)) (xR (decide ((n.next.length : Int) = 0))))))
  else if n.kind = 5 then yY (xT 5 5) (yY (xR (decide (n.prio = 0))) (yY (xR (payOk n)) (yY (xR (!n.ch)) (oneO n.next))))
  else if n.kind = 1 ∨ n.kind = 2 then yY (xT n.kind 5) (yY (xR (payOk n)) (yY (xT n.prio 1000) (yY (flagO n.ch) (yY (if n.ch then xB n.pay else some []) (oneO n.next)))))
  else if n.kind = 3 ∨ n.kind = 4 then yY (xT n.kind 5) (yY (xR (payOk n)) (yY (xT n.prio 1000) (yY (xR (!n.ch)) (xX 1 8 xB n.next))))
  else none
theorem flagO_len {b : Bool} {bs : List UInt8} (h : flagO b = some bs) : bs.length ≤ 10 := by cases h;simp
theorem one_of {l : List (Int × Int)} (h : decide ((l.length : Int) = 1) = true) : ∃ e,l = [e] := by
  have h := of_decide_eq_true h
  rcases l with _ | ⟨e,_ | ⟨e',l⟩⟩
  · simp at h
  · exact ⟨e,rfl⟩
  · simp only [List.length_cons] at h;omega
theorem oneO_no {l : List (Int × Int)} (h : decide ((l.length : Int) = 1) = false) : oneO l = none := by
  have h := of_decide_eq_false h
  rcases l with _ | ⟨e,_ | ⟨e',l⟩⟩
  · rfl
  · exact absurd rfl h
  · rfl
instance ftEdge : FT Tryz.prog 55 [(3,0),(3,1)] := FT.mk' (by kernel_rfl) (by kernel_rfl) (by kernel_rfl) (by kernel_rfl)
instance ftType : FT Tryz.prog 60 [(3,0),(3,1)] := FT.mk' (by kernel_rfl) (by kernel_rfl) (by kernel_rfl) (by kernel_rfl)
theorem edge_one (e : Int × Int) : ∀ v ∈ yG e,v.oneCell' = true := by simp [Value.oneCell']
theorem ct_emp {f : FuncId} {args : Array Value} {o : OB} {w : Nat} {pre : List UInt8} (h : Ct Tryz.prog f args [WrB w pre] (uY o w pre [])) : Ct Tryz.prog f args [WrB w pre,Emp] (uY o w pre [Emp]) :=
  Ct.post (h.frame [Emp]) fun e L'' ⟨L',h1,h2⟩ => by
    cases o with
    | none => exact ⟨[],Ent.nil,h1.1,rfl⟩
    | some bs => obtain ⟨he,hL⟩ := h1;subst hL h2;exact ⟨_,Ent.refl _,he,rfl⟩
attribute [local irreducible] callFunc Go.method J JL JO JR JR1 JRl Ct JG JM JM1 JW JW1 JQ JQ0 JS CtD yW WrB by8 xT Emp xB xX
section
variable (w : Nat) (pre : List UInt8) (prio : Int) (pay : Int × Int) (next : List (Int × Int)) (a : SA)
set_option maxHeartbeats 2000000 in
theorem node00_c (hpre : pre.length + (100 + costs (fun _ => 20) next) ≤ 880000) : Ct Tryz.prog 53 #[lay w,.agg (wI ⟨0,prio,false,pay,next,a⟩).toArray] [WrB w pre,Vw 2 (slc a next.length) next.length (next.flatMap yG)] (uY (xS ⟨0,prio,false,pay,next,a⟩) w pre [Vw 2 (slc a next.length) next.length (next.flatMap yG)]) := by
    refine yE (vs := [lay w,.agg [.int .i64 0,.int .i64 prio,.bool false,.int .i64 pay.1,.int .i64 pay.2,slc a next.length].toArray]) Tryz.func53 rfl Tryz.ntmps53 (by simp) ?_
    have e0 : xS ⟨0,prio,false,pay,next,a⟩ = yY (xT 0 5) (yY (xR (decide (prio = 0))) (yY (xR (pay.1 == 0 && pay.2 == 0)) (yY (xR true) (xR (decide ((next.length : Int) = 0)))))) := by simp [xS,payOk]
    repeat (first|(first|refine zB ?_|refine zD ?_|refine zG ?_)|(first|((first|refine zA rfl ?_);first|refine xI rfl (by simp) rfl ?_|refine zF rfl rfl ?_|refine zH rfl rfl ?_|refine yB rfl rfl (fun r => ?_))))
    have c1 := wT w pre 0 5 (by (try simp only [List.length_append]);omega) (by decide)
    refine zA rfl (yT rfl c1 rfl (fun b1 g1 => ?_) (fun g1 => yK (by rw [e0];simp only [g1,xH,xE,catO_none,catO_none',catO_some,yU,List.append_assoc,List.append_nil,List.nil_append])))
    have l1 := xZ g1 (by decide)
    repeat (first|(first|refine zB ?_|refine zD ?_|refine zG ?_)|(first|((first|refine zA rfl ?_|refine zV rfl rfl ?_);first|refine JOq (JQ_neF rfl rfl (by omega)) rfl ?_|refine zE rfl rfl ?_|refine zC rfl rfl ?_|refine zF rfl rfl ?_|refine zH rfl rfl ?_|refine zY rfl rfl rfl ?_|refine JO_eqI rfl rfl rfl ?_)|refine yN rfl rfl rfl ?_))
    refine zA rfl (xO rfl (xC _) rfl (fun g2 => ?_) (fun g2 => yK (by rw [e0];simp only [g1,g2,xH,xE,catO_none,catO_none',catO_some,yU,List.append_assoc,List.append_nil,List.nil_append])))
    repeat (first|(first|refine zB ?_|refine zD ?_|refine zG ?_)|(first|((first|refine zA rfl ?_|refine zV rfl rfl ?_);first|refine JOq (JQ_eqAgg rfl rfl (eq_ii pay.1 pay.2 0 0 9998)) rfl ?_|refine yI (cs := yG (0,0)) rfl rfl rfl ?_|refine xI rfl (by simp) rfl ?_|refine zE rfl rfl ?_|refine zF rfl rfl ?_|refine zH rfl rfl ?_|refine zY rfl rfl rfl ?_)))
    refine zA rfl (xO rfl (xC _) rfl (fun g3 => ?_) (fun g3 => yK (by rw [e0];simp only [g1,g2,g3,xH,xE,catO_none,catO_none',catO_some,yU,List.append_assoc,List.append_nil,List.nil_append])))
    repeat (first|(first|refine zB ?_|refine zD ?_|refine zG ?_|refine zI ?_|refine zP ?_|refine zK rfl ?_)|(first|((first|refine zA rfl ?_);first|refine JOq (yM rfl rfl (by omega)) rfl ?_|refine xF rfl rfl ?_|refine zE rfl rfl ?_|refine zC rfl rfl ?_|refine zF rfl rfl ?_|refine zH rfl rfl ?_|refine xF rfl rfl ?_)))
    refine zA rfl (xO rfl (xC true) rfl (fun _ => ?_) (fun h => absurd h (by decide)))
    repeat (first|(first|refine zB ?_|refine zD ?_|refine zG ?_|refine zI ?_|refine zL rfl ?_)|(first|((first|refine zA rfl ?_);first|refine JOq (yX rfl rfl (by omega)) rfl ?_|refine zC rfl rfl ?_|refine yA rfl rfl ?_|refine zF rfl rfl ?_|refine zH rfl rfl ?_|refine JO_eqI rfl rfl rfl ?_)))
    refine zA rfl (xO rfl (xC _) rfl (fun g4 => ?_) (fun g4 => yK (by rw [e0];simp only [g1,g2,g3,g4,xH,xE,catO_none,catO_none',catO_some,yU,List.append_assoc,List.append_nil,List.nil_append])))
    repeat (first|(first|refine zD ?_)|(first|((first|refine zA rfl ?_);first|refine JOq (yF rfl rfl (by omega)) rfl ?_)))
    exact vA rfl (show xS _ = some (b1) by rw [e0];simp only [g1,g2,g3,g4,xH,xE,catO_none,catO_none',catO_some,yU,List.append_assoc,List.append_nil,List.nil_append]) (by simp) Ent.sel
set_option maxHeartbeats 2000000 in
theorem node01_c (hpre : pre.length + (100 + costs (fun _ => 20) next) ≤ 880000) : Ct Tryz.prog 53 #[lay w,.agg (wI ⟨0,prio,true,pay,next,a⟩).toArray] [WrB w pre,Vw 2 (slc a next.length) next.length (next.flatMap yG)] (uY (xS ⟨0,prio,true,pay,next,a⟩) w pre [Vw 2 (slc a next.length) next.length (next.flatMap yG)]) := by
    refine yE (vs := [lay w,.agg [.int .i64 0,.int .i64 prio,.bool true,.int .i64 pay.1,.int .i64 pay.2,slc a next.length].toArray]) Tryz.func53 rfl Tryz.ntmps53 (by simp) ?_
    have e0 : xS ⟨0,prio,true,pay,next,a⟩ = yY (xT 0 5) (yY (xR (decide (prio = 0))) (yY (xR true) (yY (xR false) (xR (decide ((next.length : Int) = 0)))))) := by simp [xS,payOk]
    repeat (first|(first|refine zB ?_|refine zD ?_|refine zG ?_)|(first|((first|refine zA rfl ?_);first|refine xI rfl (by simp) rfl ?_|refine zF rfl rfl ?_|refine zH rfl rfl ?_|refine yB rfl rfl (fun r => ?_))))
    have c1 := wT w pre 0 5 (by (try simp only [List.length_append]);omega) (by decide)
    refine zA rfl (yT rfl c1 rfl (fun b1 g1 => ?_) (fun g1 => yK (by rw [e0];simp only [g1,xH,xE,catO_none,catO_none',catO_some,yU,List.append_assoc,List.append_nil,List.nil_append])))
    have l1 := xZ g1 (by decide)
    repeat (first|(first|refine zB ?_|refine zD ?_|refine zG ?_)|(first|((first|refine zA rfl ?_|refine zV rfl rfl ?_);first|refine JOq (JQ_neF rfl rfl (by omega)) rfl ?_|refine zE rfl rfl ?_|refine zC rfl rfl ?_|refine zF rfl rfl ?_|refine zH rfl rfl ?_|refine zY rfl rfl rfl ?_|refine JO_eqI rfl rfl rfl ?_)|refine yN rfl rfl rfl ?_))
    refine zA rfl (xO rfl (xC _) rfl (fun g2 => ?_) (fun g2 => yK (by rw [e0];simp only [g1,g2,xH,xE,catO_none,catO_none',catO_some,yU,List.append_assoc,List.append_nil,List.nil_append])))
    repeat (first|(first|refine zB ?_|refine zD ?_|refine zG ?_)|(first|((first|refine zA rfl ?_);first|refine zE rfl rfl ?_|refine zF rfl rfl ?_|refine zH rfl rfl ?_|refine zU rfl rfl rfl ?_)|refine yN rfl rfl rfl ?_))
    refine zA rfl (xO rfl (xC true) rfl (fun _ => ?_) (fun h => absurd h (by decide)))
    repeat (first|(first|refine zB ?_|refine zD ?_|refine zG ?_|refine zI ?_|refine zP ?_|refine zK rfl ?_)|(first|((first|refine zA rfl ?_);first|refine JOq (yM rfl rfl (by omega)) rfl ?_|refine xF rfl rfl ?_|refine zE rfl rfl ?_|refine zC rfl rfl ?_|refine zF rfl rfl ?_|refine zH rfl rfl ?_|refine xF rfl rfl ?_)))
    refine zA rfl (xO rfl (xC false) rfl (fun h => absurd h (by decide)) (fun _ => yK (by rw [e0];simp only [g1,g2,xH,xE,catO_none,catO_none',catO_some,yU,List.append_assoc,List.append_nil,List.nil_append])))
set_option maxHeartbeats 2000000 in
theorem node10_c (hpre : pre.length + (100 + costs (fun _ => 20) next) ≤ 880000) : Ct Tryz.prog 53 #[lay w,.agg (wI ⟨1,prio,false,pay,next,a⟩).toArray] [WrB w pre,Vw 2 (slc a next.length) next.length (next.flatMap yG)] (uY (xS ⟨1,prio,false,pay,next,a⟩) w pre [Vw 2 (slc a next.length) next.length (next.flatMap yG)]) := by
    refine yE (vs := [lay w,.agg [.int .i64 1,.int .i64 prio,.bool false,.int .i64 pay.1,.int .i64 pay.2,slc a next.length].toArray]) Tryz.func53 rfl Tryz.ntmps53 (by simp) ?_
    have e0 : xS ⟨1,prio,false,pay,next,a⟩ = yY (xT 1 5) (yY (xR (pay.1 == 0 && pay.2 == 0)) (yY (xT prio 1000) (yY (flagO false) (yY (some []) (oneO next))))) := by simp [xS,payOk]
    repeat (first|(first|refine zB ?_|refine zD ?_|refine zG ?_)|(first|((first|refine zA rfl ?_);first|refine xI rfl (by simp) rfl ?_|refine zF rfl rfl ?_|refine zH rfl rfl ?_|refine yB rfl rfl (fun r => ?_))))
    have c1 := wT w pre 1 5 (by (try simp only [List.length_append]);omega) (by decide)
    refine zA rfl (yT rfl c1 rfl (fun b1 g1 => ?_) (fun g1 => yK (by rw [e0];simp only [g1,xH,xE,catO_none,catO_none',catO_some,yU,List.append_assoc,List.append_nil,List.nil_append])))
    have l1 := xZ g1 (by decide)
    repeat (first|(first|refine zB ?_|refine zD ?_|refine zG ?_)|(first|((first|refine zA rfl ?_|refine zV rfl rfl ?_);first|refine JOq (tI rfl rfl (by omega)) rfl ?_|refine zE rfl rfl ?_|refine zC rfl rfl ?_|refine zF rfl rfl ?_|refine zH rfl rfl ?_|refine zU rfl rfl rfl ?_)|refine yN rfl rfl rfl ?_))
    refine zA rfl (xO rfl (xC true) rfl (fun _ => ?_) (fun h => absurd h (by decide)))
    repeat (first|(first|refine zB ?_|refine zD ?_|refine zG ?_)|(first|((first|refine zA rfl ?_|refine zV rfl rfl ?_);first|refine JOq (JQ_eqAgg rfl rfl (eq_ii pay.1 pay.2 0 0 9998)) rfl ?_|refine yI (cs := yG (0,0)) rfl rfl rfl ?_|refine xI rfl (by simp) rfl ?_|refine zE rfl rfl ?_|refine zF rfl rfl ?_|refine zH rfl rfl ?_|refine zY rfl rfl rfl ?_)))
    refine zA rfl (xO rfl (xC _) rfl (fun g2 => ?_) (fun g2 => yK (by rw [e0];simp only [g1,g2,xH,xE,catO_none,catO_none',catO_some,yU,List.append_assoc,List.append_nil,List.nil_append])))
    repeat (first|(first|refine zB ?_|refine zD ?_|refine zG ?_|refine zL rfl ?_)|(first|((first|refine zA rfl ?_);first|refine xI rfl (by simp) rfl ?_|refine zE rfl rfl ?_|refine zF rfl rfl ?_|refine zH rfl rfl ?_)))
    have c3 := wT w (pre ++ b1) prio 1000 (by (try simp only [List.length_append]);omega) (by decide)
    refine zA rfl (yT rfl c3 rfl (fun b3 g3 => ?_) (fun g3 => yK (by rw [e0];simp only [g1,g2,g3,xH,xE,catO_none,catO_none',catO_some,yU,List.append_assoc,List.append_nil,List.nil_append])))
    have l3 := xZ g3 (by decide)
    repeat (first|(first|refine zB ?_|refine zD ?_|refine zG ?_|refine zI ?_|refine zP ?_|refine zL rfl ?_)|(first|((first|refine zA rfl ?_);first|refine JOq (yX rfl rfl (by omega)) rfl ?_|refine xI rfl (by simp) rfl ?_|refine zC rfl rfl ?_|refine zF rfl rfl ?_|refine zH rfl rfl ?_)))
    have c4 := flag11_c w ((pre ++ b1) ++ b3) false (by (try simp only [List.length_append]);omega)
    refine zA rfl (yT rfl c4 rfl (fun b4 g4 => ?_) (fun g4 => yK (by rw [e0];simp only [g1,g2,g3,g4,xH,xE,catO_none,catO_none',catO_some,yU,List.append_assoc,List.append_nil,List.nil_append])))
    have l4 := flagO_len g4
    repeat (first|(first|refine zB ?_|refine zD ?_|refine zG ?_|refine zI ?_|refine zP ?_|refine zK rfl ?_)|(first|((first|refine zA rfl ?_);first|refine JOq (yM rfl rfl (by omega)) rfl ?_|refine zC rfl rfl ?_|refine yA rfl rfl ?_|refine zF rfl rfl ?_|refine zH rfl rfl ?_|refine JO_eqI rfl rfl rfl ?_)))
    refine zA rfl (xO rfl (xC _) rfl (fun g5 => ?_) (fun g5 => yK (by rw [e0,oneO_no g5];simp only [g1,g2,g3,g4,xH,xE,catO_none,catO_none',catO_some,yU,List.append_assoc,List.append_nil,List.nil_append])))
    obtain ⟨e,rfl⟩ := one_of g5
    repeat (first|(first|refine zD ?_)|(first|((first|refine zA rfl ?_);first|refine JOq (yF rfl rfl (by omega)) rfl ?_)))
    refine vH (Vw 2 (slc a 1) 1 ([e].flatMap yG)) ?_
    refine wS (φ := ∃ b o,a.1 = some ⟨b,o,none⟩) (fun F w hs => hs.tail.out (fun k hk => wN (by decide) k hk)) (fun hp => ?_)
    obtain ⟨a1,a2⟩ := a
    dsimp only at hp
    obtain ⟨b,o,rfl⟩ := hp
    rw [show oneO [e] = xB e from rfl] at e0
    have c6 := edge11_c w (((pre ++ b1) ++ b3) ++ b4) e (by (try simp only [List.length_append]);omega)
    repeat' (first|refine J_regionD ?_|refine JA_end rfl ?_|refine JA_step rfl ?_|exact jal_nil|refine jal_no rfl ?_|refine jal_yes rfl ?_ ?_|(first|((first|refine JA_op rfl rfl ?_);first|refine zF rfl rfl ?_|refine zH rfl rfl ?_|refine zQ rfl (by rfl) rfl ?_|refine xM (j := 0) rfl rfl (by simp) rfl ?_|refine JO_loadAL (yG e) rfl (fun i u hu => xJ (n := 1) (cap := a2) (j := 0) (by decide) (by simpa using hu)) rfl rfl ?_|refine yT rfl c6 rfl (fun b6 g6 => ?_) (fun g6 => yK (by rw [e0];simp only [g1,g2,g3,g4,g6,xH,xE,catO_none,catO_none',catO_some,yU,List.append_assoc,List.append_nil,List.nil_append])))))
    all_goals exact vA rfl (show xS _ = some (b1 ++ (b3 ++ (b4 ++ (b6)))) by rw [e0];simp only [g1,g2,g3,g4,g6,xH,xE,catO_none,catO_none',catO_some,yU,List.append_assoc,List.append_nil,List.nil_append]) (by simp) Ent.sel
set_option maxHeartbeats 2000000 in
theorem node11_c' (hpre : pre.length + (100 + costs (fun _ => 20) next) ≤ 880000) : Ct Tryz.prog 53 #[lay w,.agg (wI ⟨1,prio,true,pay,next,a⟩).toArray] [WrB w pre,Vw 2 (slc a next.length) next.length (next.flatMap yG)] (uY (xS ⟨1,prio,true,pay,next,a⟩) w pre [Vw 2 (slc a next.length) next.length (next.flatMap yG)]) := by
    refine yE (vs := [lay w,.agg [.int .i64 1,.int .i64 prio,.bool true,.int .i64 pay.1,.int .i64 pay.2,slc a next.length].toArray]) Tryz.func53 rfl Tryz.ntmps53 (by simp) ?_
    have e0 : xS ⟨1,prio,true,pay,next,a⟩ = yY (xT 1 5) (yY (xR true) (yY (xT prio 1000) (yY (flagO true) (yY (xB pay) (oneO next))))) := by simp [xS,payOk]
    repeat (first|(first|refine zB ?_|refine zD ?_|refine zG ?_)|(first|((first|refine zA rfl ?_);first|refine xI rfl (by simp) rfl ?_|refine zF rfl rfl ?_|refine zH rfl rfl ?_|refine yB rfl rfl (fun r => ?_))))
    have c1 := wT w pre 1 5 (by (try simp only [List.length_append]);omega) (by decide)
    refine zA rfl (yT rfl c1 rfl (fun b1 g1 => ?_) (fun g1 => yK (by rw [e0];simp only [g1,xH,xE,catO_none,catO_none',catO_some,yU,List.append_assoc,List.append_nil,List.nil_append])))
    have l1 := xZ g1 (by decide)
    repeat (first|(first|refine zB ?_|refine zD ?_|refine zG ?_)|(first|((first|refine zA rfl ?_|refine zV rfl rfl ?_);first|refine JOq (tI rfl rfl (by omega)) rfl ?_|refine zE rfl rfl ?_|refine zC rfl rfl ?_|refine zF rfl rfl ?_|refine zH rfl rfl ?_|refine zU rfl rfl rfl ?_)|refine yN rfl rfl rfl ?_))
    refine zA rfl (xO rfl (xC true) rfl (fun _ => ?_) (fun h => absurd h (by decide)))
    repeat (first|(first|refine zB ?_|refine zD ?_|refine zG ?_)|(first|((first|refine zA rfl ?_);first|refine zE rfl rfl ?_|refine zF rfl rfl ?_|refine zH rfl rfl ?_|refine zU rfl rfl rfl ?_)|refine yN rfl rfl rfl ?_))
    refine zA rfl (xO rfl (xC true) rfl (fun _ => ?_) (fun h => absurd h (by decide)))
    repeat (first|(first|refine zB ?_|refine zD ?_|refine zG ?_|refine zL rfl ?_)|(first|((first|refine zA rfl ?_);first|refine xI rfl (by simp) rfl ?_|refine zE rfl rfl ?_|refine zF rfl rfl ?_|refine zH rfl rfl ?_)))
    have c2 := wT w (pre ++ b1) prio 1000 (by (try simp only [List.length_append]);omega) (by decide)
    refine zA rfl (yT rfl c2 rfl (fun b2 g2 => ?_) (fun g2 => yK (by rw [e0];simp only [g1,g2,xH,xE,catO_none,catO_none',catO_some,yU,List.append_assoc,List.append_nil,List.nil_append])))
    have l2 := xZ g2 (by decide)
    repeat (first|(first|refine zB ?_|refine zD ?_|refine zG ?_|refine zI ?_|refine zP ?_|refine zL rfl ?_)|(first|((first|refine zA rfl ?_);first|refine JOq (yX rfl rfl (by omega)) rfl ?_|refine xI rfl (by simp) rfl ?_|refine zC rfl rfl ?_|refine zF rfl rfl ?_|refine zH rfl rfl ?_)))
    have c3 := flag11_c w ((pre ++ b1) ++ b2) true (by (try simp only [List.length_append]);omega)
    refine zA rfl (yT rfl c3 rfl (fun b3 g3 => ?_) (fun g3 => yK (by rw [e0];simp only [g1,g2,g3,xH,xE,catO_none,catO_none',catO_some,yU,List.append_assoc,List.append_nil,List.nil_append])))
    have l3 := flagO_len g3
    repeat (first|(first|refine zB ?_|refine zD ?_|refine zG ?_|refine zL rfl ?_)|(first|((first|refine zA rfl ?_);first|refine xI rfl (by simp) rfl ?_|refine zF rfl rfl ?_|refine zH rfl rfl ?_)))
    have c4 := edge11_c w (((pre ++ b1) ++ b2) ++ b3) pay (by (try simp only [List.length_append]);omega)
    refine zA rfl (yT rfl c4 rfl (fun b4 g4 => ?_) (fun g4 => yK (by rw [e0];simp only [g1,g2,g3,g4,xH,xE,catO_none,catO_none',catO_some,yU,List.append_assoc,List.append_nil,List.nil_append])))
    have l4 := wH g4
    repeat (first|(first|refine zB ?_|refine zD ?_|refine zG ?_|refine zI ?_|refine zK rfl ?_)|(first|((first|refine zA rfl ?_);first|refine JOq (yM rfl rfl (by omega)) rfl ?_|refine zC rfl rfl ?_|refine yA rfl rfl ?_|refine zF rfl rfl ?_|refine zH rfl rfl ?_|refine JO_eqI rfl rfl rfl ?_)))
    refine zA rfl (xO rfl (xC _) rfl (fun g5 => ?_) (fun g5 => yK (by rw [e0,oneO_no g5];simp only [g1,g2,g3,g4,xH,xE,catO_none,catO_none',catO_some,yU,List.append_assoc,List.append_nil,List.nil_append])))
    obtain ⟨e,rfl⟩ := one_of g5
    repeat (first|(first|refine zD ?_)|(first|((first|refine zA rfl ?_);first|refine JOq (yF rfl rfl (by omega)) rfl ?_)))
    refine vH (Vw 2 (slc a 1) 1 ([e].flatMap yG)) ?_
    refine wS (φ := ∃ b o,a.1 = some ⟨b,o,none⟩) (fun F w hs => hs.tail.out (fun k hk => wN (by decide) k hk)) (fun hp => ?_)
    obtain ⟨a1,a2⟩ := a
    dsimp only at hp
    obtain ⟨b,o,rfl⟩ := hp
    rw [show oneO [e] = xB e from rfl] at e0
    have c6 := edge11_c w ((((pre ++ b1) ++ b2) ++ b3) ++ b4) e (by (try simp only [List.length_append]);omega)
    repeat' (first|refine J_regionD ?_|refine JA_end rfl ?_|refine JA_step rfl ?_|exact jal_nil|refine jal_no rfl ?_|refine jal_yes rfl ?_ ?_|(first|((first|refine JA_op rfl rfl ?_);first|refine zF rfl rfl ?_|refine zH rfl rfl ?_|refine zQ rfl (by rfl) rfl ?_|refine xM (j := 0) rfl rfl (by simp) rfl ?_|refine JO_loadAL (yG e) rfl (fun i u hu => xJ (n := 1) (cap := a2) (j := 0) (by decide) (by simpa using hu)) rfl rfl ?_|refine yT rfl c6 rfl (fun b6 g6 => ?_) (fun g6 => yK (by rw [e0];simp only [g1,g2,g3,g4,g6,xH,xE,catO_none,catO_none',catO_some,yU,List.append_assoc,List.append_nil,List.nil_append])))))
    all_goals exact vA rfl (show xS _ = some (b1 ++ (b2 ++ (b3 ++ (b4 ++ (b6))))) by rw [e0];simp only [g1,g2,g3,g4,g6,xH,xE,catO_none,catO_none',catO_some,yU,List.append_assoc,List.append_nil,List.nil_append]) (by simp) Ent.sel
set_option maxHeartbeats 2000000 in
theorem node20_c (hpre : pre.length + (100 + costs (fun _ => 20) next) ≤ 880000) : Ct Tryz.prog 53 #[lay w,.agg (wI ⟨2,prio,false,pay,next,a⟩).toArray] [WrB w pre,Vw 2 (slc a next.length) next.length (next.flatMap yG)] (uY (xS ⟨2,prio,false,pay,next,a⟩) w pre [Vw 2 (slc a next.length) next.length (next.flatMap yG)]) := by
    refine yE (vs := [lay w,.agg [.int .i64 2,.int .i64 prio,.bool false,.int .i64 pay.1,.int .i64 pay.2,slc a next.length].toArray]) Tryz.func53 rfl Tryz.ntmps53 (by simp) ?_
    have e0 : xS ⟨2,prio,false,pay,next,a⟩ = yY (xT 2 5) (yY (xR (pay.1 == 0 && pay.2 == 0)) (yY (xT prio 1000) (yY (flagO false) (yY (some []) (oneO next))))) := by simp [xS,payOk]
    repeat (first|(first|refine zB ?_|refine zD ?_|refine zG ?_)|(first|((first|refine zA rfl ?_);first|refine xI rfl (by simp) rfl ?_|refine zF rfl rfl ?_|refine zH rfl rfl ?_|refine yB rfl rfl (fun r => ?_))))
    have c1 := wT w pre 2 5 (by (try simp only [List.length_append]);omega) (by decide)
    refine zA rfl (yT rfl c1 rfl (fun b1 g1 => ?_) (fun g1 => yK (by rw [e0];simp only [g1,xH,xE,catO_none,catO_none',catO_some,yU,List.append_assoc,List.append_nil,List.nil_append])))
    have l1 := xZ g1 (by decide)
    repeat (first|(first|refine zB ?_|refine zD ?_|refine zG ?_)|(first|((first|refine zA rfl ?_|refine zV rfl rfl ?_);first|refine JOq (tI rfl rfl (by omega)) rfl ?_|refine zE rfl rfl ?_|refine zC rfl rfl ?_|refine zF rfl rfl ?_|refine zH rfl rfl ?_|refine zU rfl rfl rfl ?_)|refine yN rfl rfl rfl ?_))
    refine zA rfl (xO rfl (xC true) rfl (fun _ => ?_) (fun h => absurd h (by decide)))
    repeat (first|(first|refine zB ?_|refine zD ?_|refine zG ?_)|(first|((first|refine zA rfl ?_|refine zV rfl rfl ?_);first|refine JOq (JQ_eqAgg rfl rfl (eq_ii pay.1 pay.2 0 0 9998)) rfl ?_|refine yI (cs := yG (0,0)) rfl rfl rfl ?_|refine xI rfl (by simp) rfl ?_|refine zE rfl rfl ?_|refine zF rfl rfl ?_|refine zH rfl rfl ?_|refine zY rfl rfl rfl ?_)))
    refine zA rfl (xO rfl (xC _) rfl (fun g2 => ?_) (fun g2 => yK (by rw [e0];simp only [g1,g2,xH,xE,catO_none,catO_none',catO_some,yU,List.append_assoc,List.append_nil,List.nil_append])))
    repeat (first|(first|refine zB ?_|refine zD ?_|refine zG ?_|refine zL rfl ?_)|(first|((first|refine zA rfl ?_);first|refine xI rfl (by simp) rfl ?_|refine zE rfl rfl ?_|refine zF rfl rfl ?_|refine zH rfl rfl ?_)))
    have c3 := wT w (pre ++ b1) prio 1000 (by (try simp only [List.length_append]);omega) (by decide)
    refine zA rfl (yT rfl c3 rfl (fun b3 g3 => ?_) (fun g3 => yK (by rw [e0];simp only [g1,g2,g3,xH,xE,catO_none,catO_none',catO_some,yU,List.append_assoc,List.append_nil,List.nil_append])))
    have l3 := xZ g3 (by decide)
    repeat (first|(first|refine zB ?_|refine zD ?_|refine zG ?_|refine zI ?_|refine zL rfl ?_|refine zK rfl ?_)|(first|((first|refine zA rfl ?_);first|refine JOq (yX rfl rfl (by omega)) rfl ?_|refine JOq (yM rfl rfl (by omega)) rfl ?_|refine xI rfl (by simp) rfl ?_|refine zC rfl rfl ?_|refine zF rfl rfl ?_|refine zH rfl rfl ?_)))
    have c4 := flag11_c w ((pre ++ b1) ++ b3) false (by (try simp only [List.length_append]);omega)
    refine zA rfl (yT rfl c4 rfl (fun b4 g4 => ?_) (fun g4 => yK (by rw [e0];simp only [g1,g2,g3,g4,xH,xE,catO_none,catO_none',catO_some,yU,List.append_assoc,List.append_nil,List.nil_append])))
    have l4 := flagO_len g4
    repeat (first|(first|refine zB ?_|refine zD ?_|refine zG ?_|refine zI ?_|refine zP ?_|refine zK rfl ?_)|(first|((first|refine zA rfl ?_);first|refine JOq (yM rfl rfl (by omega)) rfl ?_|refine zC rfl rfl ?_|refine yA rfl rfl ?_|refine zF rfl rfl ?_|refine zH rfl rfl ?_|refine JO_eqI rfl rfl rfl ?_)))
    refine zA rfl (xO rfl (xC _) rfl (fun g5 => ?_) (fun g5 => yK (by rw [e0,oneO_no g5];simp only [g1,g2,g3,g4,xH,xE,catO_none,catO_none',catO_some,yU,List.append_assoc,List.append_nil,List.nil_append])))
    obtain ⟨e,rfl⟩ := one_of g5
    repeat (first|(first|refine zD ?_)|(first|((first|refine zA rfl ?_);first|refine JOq (yF rfl rfl (by omega)) rfl ?_)))
    refine vH (Vw 2 (slc a 1) 1 ([e].flatMap yG)) ?_
    refine wS (φ := ∃ b o,a.1 = some ⟨b,o,none⟩) (fun F w hs => hs.tail.out (fun k hk => wN (by decide) k hk)) (fun hp => ?_)
    obtain ⟨a1,a2⟩ := a
    dsimp only at hp
    obtain ⟨b,o,rfl⟩ := hp
    rw [show oneO [e] = xB e from rfl] at e0
    have c6 := edge11_c w (((pre ++ b1) ++ b3) ++ b4) e (by (try simp only [List.length_append]);omega)
    repeat' (first|refine J_regionD ?_|refine JA_end rfl ?_|refine JA_step rfl ?_|exact jal_nil|refine jal_no rfl ?_|refine jal_yes rfl ?_ ?_|(first|((first|refine JA_op rfl rfl ?_);first|refine zF rfl rfl ?_|refine zH rfl rfl ?_|refine zQ rfl (by rfl) rfl ?_|refine xM (j := 0) rfl rfl (by simp) rfl ?_|refine JO_loadAL (yG e) rfl (fun i u hu => xJ (n := 1) (cap := a2) (j := 0) (by decide) (by simpa using hu)) rfl rfl ?_|refine yT rfl c6 rfl (fun b6 g6 => ?_) (fun g6 => yK (by rw [e0];simp only [g1,g2,g3,g4,g6,xH,xE,catO_none,catO_none',catO_some,yU,List.append_assoc,List.append_nil,List.nil_append])))))
    all_goals exact vA rfl (show xS _ = some (b1 ++ (b3 ++ (b4 ++ (b6)))) by rw [e0];simp only [g1,g2,g3,g4,g6,xH,xE,catO_none,catO_none',catO_some,yU,List.append_assoc,List.append_nil,List.nil_append]) (by simp) Ent.sel
set_option maxHeartbeats 2000000 in
theorem node21_c (hpre : pre.length + (100 + costs (fun _ => 20) next) ≤ 880000) : Ct Tryz.prog 53 #[lay w,.agg (wI ⟨2,prio,true,pay,next,a⟩).toArray] [WrB w pre,Vw 2 (slc a next.length) next.length (next.flatMap yG)] (uY (xS ⟨2,prio,true,pay,next,a⟩) w pre [Vw 2 (slc a next.length) next.length (next.flatMap yG)]) := by
    refine yE (vs := [lay w,.agg [.int .i64 2,.int .i64 prio,.bool true,.int .i64 pay.1,.int .i64 pay.2,slc a next.length].toArray]) Tryz.func53 rfl Tryz.ntmps53 (by simp) ?_
    have e0 : xS ⟨2,prio,true,pay,next,a⟩ = yY (xT 2 5) (yY (xR true) (yY (xT prio 1000) (yY (flagO true) (yY (xB pay) (oneO next))))) := by simp [xS,payOk]
    repeat (first|(first|refine zB ?_|refine zD ?_|refine zG ?_)|(first|((first|refine zA rfl ?_);first|refine xI rfl (by simp) rfl ?_|refine zF rfl rfl ?_|refine zH rfl rfl ?_|refine yB rfl rfl (fun r => ?_))))
    have c1 := wT w pre 2 5 (by (try simp only [List.length_append]);omega) (by decide)
    refine zA rfl (yT rfl c1 rfl (fun b1 g1 => ?_) (fun g1 => yK (by rw [e0];simp only [g1,xH,xE,catO_none,catO_none',catO_some,yU,List.append_assoc,List.append_nil,List.nil_append])))
    have l1 := xZ g1 (by decide)
    repeat (first|(first|refine zB ?_|refine zD ?_|refine zG ?_)|(first|((first|refine zA rfl ?_|refine zV rfl rfl ?_);first|refine JOq (tI rfl rfl (by omega)) rfl ?_|refine zE rfl rfl ?_|refine zC rfl rfl ?_|refine zF rfl rfl ?_|refine zH rfl rfl ?_|refine zU rfl rfl rfl ?_)|refine yN rfl rfl rfl ?_))
    refine zA rfl (xO rfl (xC true) rfl (fun _ => ?_) (fun h => absurd h (by decide)))
    repeat (first|(first|refine zB ?_|refine zD ?_|refine zG ?_)|(first|((first|refine zA rfl ?_);first|refine zE rfl rfl ?_|refine zF rfl rfl ?_|refine zH rfl rfl ?_|refine zU rfl rfl rfl ?_)|refine yN rfl rfl rfl ?_))
    refine zA rfl (xO rfl (xC true) rfl (fun _ => ?_) (fun h => absurd h (by decide)))
    repeat (first|(first|refine zB ?_|refine zD ?_|refine zG ?_|refine zL rfl ?_)|(first|((first|refine zA rfl ?_);first|refine xI rfl (by simp) rfl ?_|refine zE rfl rfl ?_|refine zF rfl rfl ?_|refine zH rfl rfl ?_)))
    have c2 := wT w (pre ++ b1) prio 1000 (by (try simp only [List.length_append]);omega) (by decide)
    refine zA rfl (yT rfl c2 rfl (fun b2 g2 => ?_) (fun g2 => yK (by rw [e0];simp only [g1,g2,xH,xE,catO_none,catO_none',catO_some,yU,List.append_assoc,List.append_nil,List.nil_append])))
    have l2 := xZ g2 (by decide)
    repeat (first|(first|refine zB ?_|refine zD ?_|refine zG ?_|refine zI ?_|refine zL rfl ?_|refine zK rfl ?_)|(first|((first|refine zA rfl ?_);first|refine JOq (yX rfl rfl (by omega)) rfl ?_|refine JOq (yM rfl rfl (by omega)) rfl ?_|refine xI rfl (by simp) rfl ?_|refine zC rfl rfl ?_|refine zF rfl rfl ?_|refine zH rfl rfl ?_)))
    have c3 := flag11_c w ((pre ++ b1) ++ b2) true (by (try simp only [List.length_append]);omega)
    refine zA rfl (yT rfl c3 rfl (fun b3 g3 => ?_) (fun g3 => yK (by rw [e0];simp only [g1,g2,g3,xH,xE,catO_none,catO_none',catO_some,yU,List.append_assoc,List.append_nil,List.nil_append])))
    have l3 := flagO_len g3
    repeat (first|(first|refine zB ?_|refine zD ?_|refine zG ?_|refine zL rfl ?_)|(first|((first|refine zA rfl ?_);first|refine xI rfl (by simp) rfl ?_|refine zF rfl rfl ?_|refine zH rfl rfl ?_)))
    have c4 := edge11_c w (((pre ++ b1) ++ b2) ++ b3) pay (by (try simp only [List.length_append]);omega)
    refine zA rfl (yT rfl c4 rfl (fun b4 g4 => ?_) (fun g4 => yK (by rw [e0];simp only [g1,g2,g3,g4,xH,xE,catO_none,catO_none',catO_some,yU,List.append_assoc,List.append_nil,List.nil_append])))
    have l4 := wH g4
    repeat (first|(first|refine zB ?_|refine zD ?_|refine zG ?_|refine zI ?_|refine zK rfl ?_)|(first|((first|refine zA rfl ?_);first|refine JOq (yM rfl rfl (by omega)) rfl ?_|refine zC rfl rfl ?_|refine yA rfl rfl ?_|refine zF rfl rfl ?_|refine zH rfl rfl ?_|refine JO_eqI rfl rfl rfl ?_)))
    refine zA rfl (xO rfl (xC _) rfl (fun g5 => ?_) (fun g5 => yK (by rw [e0,oneO_no g5];simp only [g1,g2,g3,g4,xH,xE,catO_none,catO_none',catO_some,yU,List.append_assoc,List.append_nil,List.nil_append])))
    obtain ⟨e,rfl⟩ := one_of g5
    repeat (first|(first|refine zD ?_)|(first|((first|refine zA rfl ?_);first|refine JOq (yF rfl rfl (by omega)) rfl ?_)))
    refine vH (Vw 2 (slc a 1) 1 ([e].flatMap yG)) ?_
    refine wS (φ := ∃ b o,a.1 = some ⟨b,o,none⟩) (fun F w hs => hs.tail.out (fun k hk => wN (by decide) k hk)) (fun hp => ?_)
    obtain ⟨a1,a2⟩ := a
    dsimp only at hp
    obtain ⟨b,o,rfl⟩ := hp
    rw [show oneO [e] = xB e from rfl] at e0
    have c6 := edge11_c w ((((pre ++ b1) ++ b2) ++ b3) ++ b4) e (by (try simp only [List.length_append]);omega)
    repeat' (first|refine J_regionD ?_|refine JA_end rfl ?_|refine JA_step rfl ?_|exact jal_nil|refine jal_no rfl ?_|refine jal_yes rfl ?_ ?_|(first|((first|refine JA_op rfl rfl ?_);first|refine zF rfl rfl ?_|refine zH rfl rfl ?_|refine zQ rfl (by rfl) rfl ?_|refine xM (j := 0) rfl rfl (by simp) rfl ?_|refine JO_loadAL (yG e) rfl (fun i u hu => xJ (n := 1) (cap := a2) (j := 0) (by decide) (by simpa using hu)) rfl rfl ?_|refine yT rfl c6 rfl (fun b6 g6 => ?_) (fun g6 => yK (by rw [e0];simp only [g1,g2,g3,g4,g6,xH,xE,catO_none,catO_none',catO_some,yU,List.append_assoc,List.append_nil,List.nil_append])))))
    all_goals exact vA rfl (show xS _ = some (b1 ++ (b2 ++ (b3 ++ (b4 ++ (b6))))) by rw [e0];simp only [g1,g2,g3,g4,g6,xH,xE,catO_none,catO_none',catO_some,yU,List.append_assoc,List.append_nil,List.nil_append]) (by simp) Ent.sel
set_option maxHeartbeats 2000000 in
theorem node30_c (hpre : pre.length + (100 + costs (fun _ => 20) next) ≤ 880000) : Ct Tryz.prog 53 #[lay w,.agg (wI ⟨3,prio,false,pay,next,a⟩).toArray] [WrB w pre,Vw 2 (slc a next.length) next.length (next.flatMap yG)] (uY (xS ⟨3,prio,false,pay,next,a⟩) w pre [Vw 2 (slc a next.length) next.length (next.flatMap yG)]) := by
    refine yE (vs := [lay w,.agg [.int .i64 3,.int .i64 prio,.bool false,.int .i64 pay.1,.int .i64 pay.2,slc a next.length].toArray]) Tryz.func53 rfl Tryz.ntmps53 (by simp) ?_
    have e0 : xS ⟨3,prio,false,pay,next,a⟩ = yY (xT 3 5) (yY (xR (pay.1 == 0 && pay.2 == 0)) (yY (xT prio 1000) (yY (xR true) (xX 1 8 xB next)))) := by simp [xS,payOk]
    repeat (first|(first|refine zB ?_|refine zD ?_|refine zG ?_)|(first|((first|refine zA rfl ?_);first|refine xI rfl (by simp) rfl ?_|refine zF rfl rfl ?_|refine zH rfl rfl ?_|refine yB rfl rfl (fun r => ?_))))
    have c1 := wT w pre 3 5 (by (try simp only [List.length_append]);omega) (by decide)
    refine zA rfl (yT rfl c1 rfl (fun b1 g1 => ?_) (fun g1 => yK (by rw [e0];simp only [g1,xH,xE,catO_none,catO_none',catO_some,yU,List.append_assoc,List.append_nil,List.nil_append])))
    have l1 := xZ g1 (by decide)
    repeat (first|(first|refine zB ?_|refine zD ?_|refine zG ?_)|(first|((first|refine zA rfl ?_|refine zV rfl rfl ?_);first|refine JOq (tI rfl rfl (by omega)) rfl ?_|refine zE rfl rfl ?_|refine zC rfl rfl ?_|refine zF rfl rfl ?_|refine zH rfl rfl ?_|refine zU rfl rfl rfl ?_)|refine yN rfl rfl rfl ?_))
    refine zA rfl (xO rfl (xC true) rfl (fun _ => ?_) (fun h => absurd h (by decide)))
    repeat (first|(first|refine zB ?_|refine zD ?_|refine zG ?_)|(first|((first|refine zA rfl ?_|refine zV rfl rfl ?_);first|refine JOq (JQ_eqAgg rfl rfl (eq_ii pay.1 pay.2 0 0 9998)) rfl ?_|refine yI (cs := yG (0,0)) rfl rfl rfl ?_|refine xI rfl (by simp) rfl ?_|refine zE rfl rfl ?_|refine zF rfl rfl ?_|refine zH rfl rfl ?_|refine zY rfl rfl rfl ?_)))
    refine zA rfl (xO rfl (xC _) rfl (fun g2 => ?_) (fun g2 => yK (by rw [e0];simp only [g1,g2,xH,xE,catO_none,catO_none',catO_some,yU,List.append_assoc,List.append_nil,List.nil_append])))
    repeat (first|(first|refine zB ?_|refine zD ?_|refine zG ?_|refine zL rfl ?_)|(first|((first|refine zA rfl ?_);first|refine xI rfl (by simp) rfl ?_|refine zE rfl rfl ?_|refine zF rfl rfl ?_|refine zH rfl rfl ?_)))
    have c3 := wT w (pre ++ b1) prio 1000 (by (try simp only [List.length_append]);omega) (by decide)
    refine zA rfl (yT rfl c3 rfl (fun b3 g3 => ?_) (fun g3 => yK (by rw [e0];simp only [g1,g2,g3,xH,xE,catO_none,catO_none',catO_some,yU,List.append_assoc,List.append_nil,List.nil_append])))
    have l3 := xZ g3 (by decide)
    repeat (first|(first|refine zB ?_|refine zD ?_|refine zG ?_|refine zI ?_|refine zK rfl ?_)|(first|((first|refine zA rfl ?_);first|refine JOq (yM rfl rfl (by omega)) rfl ?_|refine xF rfl rfl ?_|refine zC rfl rfl ?_|refine zF rfl rfl ?_|refine zH rfl rfl ?_|refine xF rfl rfl ?_)))
    refine zA rfl (xO rfl (xC true) rfl (fun _ => ?_) (fun h => absurd h (by decide)))
    repeat (first|(first|refine zB ?_|refine zD ?_|refine zG ?_|refine zI ?_|refine zP ?_|refine zL rfl ?_|refine zK rfl ?_)|(first|((first|refine zA rfl ?_);first|refine JOq (yX rfl rfl (by omega)) rfl ?_|refine JOq (yM rfl rfl (by omega)) rfl ?_|refine xI rfl (by simp) rfl ?_|refine zC rfl rfl ?_|refine zF rfl rfl ?_|refine zH rfl rfl ?_|refine xP rfl rfl rfl ?_)))
    refine uF emp_in ?_
    have c4 := listedEdge_c yG xB (fun _ => 20) (f := 111) [lay w] [] Emp (fun _ => rfl) edge_one (fun _ _ h => wH h) w next (fun x _ p hp => ct_emp (edge11_c w p x (by omega))) a 1 8 (by decide) ((pre ++ b1) ++ b3) (by (try simp only [List.length_append]);omega)
    refine zA rfl (yT rfl c4 rfl (fun b4 g4 => ?_) (fun g4 => yK (by rw [e0];simp only [g1,g2,g3,g4,xH,xE,catO_none,catO_none',catO_some,yU,List.append_assoc,List.append_nil,List.nil_append])))
    have l4 := listO_len (by decide) (fun _ _ h => wH h) g4
    repeat (first|(first|refine zD ?_)|(first|((first|refine zA rfl ?_);first|refine JOq (yF rfl rfl (by omega)) rfl ?_)))
    exact vA rfl (show xS _ = some (b1 ++ (b3 ++ (b4))) by rw [e0];simp only [g1,g2,g3,g4,xH,xE,catO_none,catO_none',catO_some,yU,List.append_assoc,List.append_nil,List.nil_append]) (by simp) Ent.sel
set_option maxHeartbeats 2000000 in
theorem node31_c (hpre : pre.length + (100 + costs (fun _ => 20) next) ≤ 880000) : Ct Tryz.prog 53 #[lay w,.agg (wI ⟨3,prio,true,pay,next,a⟩).toArray] [WrB w pre,Vw 2 (slc a next.length) next.length (next.flatMap yG)] (uY (xS ⟨3,prio,true,pay,next,a⟩) w pre [Vw 2 (slc a next.length) next.length (next.flatMap yG)]) := by
    refine yE (vs := [lay w,.agg [.int .i64 3,.int .i64 prio,.bool true,.int .i64 pay.1,.int .i64 pay.2,slc a next.length].toArray]) Tryz.func53 rfl Tryz.ntmps53 (by simp) ?_
    have e0 : xS ⟨3,prio,true,pay,next,a⟩ = yY (xT 3 5) (yY (xR true) (yY (xT prio 1000) (yY (xR false) (xX 1 8 xB next)))) := by simp [xS,payOk]
    repeat (first|(first|refine zB ?_|refine zD ?_|refine zG ?_)|(first|((first|refine zA rfl ?_);first|refine xI rfl (by simp) rfl ?_|refine zF rfl rfl ?_|refine zH rfl rfl ?_|refine yB rfl rfl (fun r => ?_))))
    have c1 := wT w pre 3 5 (by (try simp only [List.length_append]);omega) (by decide)
    refine zA rfl (yT rfl c1 rfl (fun b1 g1 => ?_) (fun g1 => yK (by rw [e0];simp only [g1,xH,xE,catO_none,catO_none',catO_some,yU,List.append_assoc,List.append_nil,List.nil_append])))
    have l1 := xZ g1 (by decide)
    repeat (first|(first|refine zB ?_|refine zD ?_|refine zG ?_)|(first|((first|refine zA rfl ?_|refine zV rfl rfl ?_);first|refine JOq (tI rfl rfl (by omega)) rfl ?_|refine zE rfl rfl ?_|refine zC rfl rfl ?_|refine zF rfl rfl ?_|refine zH rfl rfl ?_|refine zU rfl rfl rfl ?_)|refine yN rfl rfl rfl ?_))
    refine zA rfl (xO rfl (xC true) rfl (fun _ => ?_) (fun h => absurd h (by decide)))
    repeat (first|(first|refine zB ?_|refine zD ?_|refine zG ?_)|(first|((first|refine zA rfl ?_);first|refine zE rfl rfl ?_|refine zF rfl rfl ?_|refine zH rfl rfl ?_|refine zU rfl rfl rfl ?_)|refine yN rfl rfl rfl ?_))
    refine zA rfl (xO rfl (xC true) rfl (fun _ => ?_) (fun h => absurd h (by decide)))
    repeat (first|(first|refine zB ?_|refine zD ?_|refine zG ?_|refine zL rfl ?_)|(first|((first|refine zA rfl ?_);first|refine xI rfl (by simp) rfl ?_|refine zE rfl rfl ?_|refine zF rfl rfl ?_|refine zH rfl rfl ?_)))
    have c2 := wT w (pre ++ b1) prio 1000 (by (try simp only [List.length_append]);omega) (by decide)
    refine zA rfl (yT rfl c2 rfl (fun b2 g2 => ?_) (fun g2 => yK (by rw [e0];simp only [g1,g2,xH,xE,catO_none,catO_none',catO_some,yU,List.append_assoc,List.append_nil,List.nil_append])))
    have l2 := xZ g2 (by decide)
    repeat (first|(first|refine zB ?_|refine zD ?_|refine zG ?_|refine zI ?_|refine zK rfl ?_)|(first|((first|refine zA rfl ?_);first|refine JOq (yM rfl rfl (by omega)) rfl ?_|refine xF rfl rfl ?_|refine zC rfl rfl ?_|refine zF rfl rfl ?_|refine zH rfl rfl ?_|refine xF rfl rfl ?_)))
    refine zA rfl (xO rfl (xC false) rfl (fun h => absurd h (by decide)) (fun _ => yK (by rw [e0];simp only [g1,g2,xH,xE,catO_none,catO_none',catO_some,yU,List.append_assoc,List.append_nil,List.nil_append])))
set_option maxHeartbeats 2000000 in
theorem node40_c (hpre : pre.length + (100 + costs (fun _ => 20) next) ≤ 880000) : Ct Tryz.prog 53 #[lay w,.agg (wI ⟨4,prio,false,pay,next,a⟩).toArray] [WrB w pre,Vw 2 (slc a next.length) next.length (next.flatMap yG)] (uY (xS ⟨4,prio,false,pay,next,a⟩) w pre [Vw 2 (slc a next.length) next.length (next.flatMap yG)]) := by
    refine yE (vs := [lay w,.agg [.int .i64 4,.int .i64 prio,.bool false,.int .i64 pay.1,.int .i64 pay.2,slc a next.length].toArray]) Tryz.func53 rfl Tryz.ntmps53 (by simp) ?_
    have e0 : xS ⟨4,prio,false,pay,next,a⟩ = yY (xT 4 5) (yY (xR (pay.1 == 0 && pay.2 == 0)) (yY (xT prio 1000) (yY (xR true) (xX 1 8 xB next)))) := by simp [xS,payOk]
    repeat (first|(first|refine zB ?_|refine zD ?_|refine zG ?_)|(first|((first|refine zA rfl ?_);first|refine xI rfl (by simp) rfl ?_|refine zF rfl rfl ?_|refine zH rfl rfl ?_|refine yB rfl rfl (fun r => ?_))))
    have c1 := wT w pre 4 5 (by (try simp only [List.length_append]);omega) (by decide)
    refine zA rfl (yT rfl c1 rfl (fun b1 g1 => ?_) (fun g1 => yK (by rw [e0];simp only [g1,xH,xE,catO_none,catO_none',catO_some,yU,List.append_assoc,List.append_nil,List.nil_append])))
    have l1 := xZ g1 (by decide)
    repeat (first|(first|refine zB ?_|refine zD ?_|refine zG ?_)|(first|((first|refine zA rfl ?_|refine zV rfl rfl ?_);first|refine JOq (tI rfl rfl (by omega)) rfl ?_|refine zE rfl rfl ?_|refine zC rfl rfl ?_|refine zF rfl rfl ?_|refine zH rfl rfl ?_|refine zU rfl rfl rfl ?_)|refine yN rfl rfl rfl ?_))
    refine zA rfl (xO rfl (xC true) rfl (fun _ => ?_) (fun h => absurd h (by decide)))
    repeat (first|(first|refine zB ?_|refine zD ?_|refine zG ?_)|(first|((first|refine zA rfl ?_|refine zV rfl rfl ?_);first|refine JOq (JQ_eqAgg rfl rfl (eq_ii pay.1 pay.2 0 0 9998)) rfl ?_|refine yI (cs := yG (0,0)) rfl rfl rfl ?_|refine xI rfl (by simp) rfl ?_|refine zE rfl rfl ?_|refine zF rfl rfl ?_|refine zH rfl rfl ?_|refine zY rfl rfl rfl ?_)))
    refine zA rfl (xO rfl (xC _) rfl (fun g2 => ?_) (fun g2 => yK (by rw [e0];simp only [g1,g2,xH,xE,catO_none,catO_none',catO_some,yU,List.append_assoc,List.append_nil,List.nil_append])))
    repeat (first|(first|refine zB ?_|refine zD ?_|refine zG ?_|refine zL rfl ?_)|(first|((first|refine zA rfl ?_);first|refine xI rfl (by simp) rfl ?_|refine zE rfl rfl ?_|refine zF rfl rfl ?_|refine zH rfl rfl ?_)))
    have c3 := wT w (pre ++ b1) prio 1000 (by (try simp only [List.length_append]);omega) (by decide)
    refine zA rfl (yT rfl c3 rfl (fun b3 g3 => ?_) (fun g3 => yK (by rw [e0];simp only [g1,g2,g3,xH,xE,catO_none,catO_none',catO_some,yU,List.append_assoc,List.append_nil,List.nil_append])))
    have l3 := xZ g3 (by decide)
    repeat (first|(first|refine zB ?_|refine zD ?_|refine zG ?_|refine zI ?_|refine zK rfl ?_)|(first|((first|refine zA rfl ?_);first|refine JOq (yM rfl rfl (by omega)) rfl ?_|refine xF rfl rfl ?_|refine zC rfl rfl ?_|refine zF rfl rfl ?_|refine zH rfl rfl ?_|refine xF rfl rfl ?_)))
    refine zA rfl (xO rfl (xC true) rfl (fun _ => ?_) (fun h => absurd h (by decide)))
    repeat (first|(first|refine zB ?_|refine zD ?_|refine zG ?_|refine zI ?_|refine zL rfl ?_|refine zK rfl ?_)|(first|((first|refine zA rfl ?_);first|refine JOq (yX rfl rfl (by omega)) rfl ?_|refine JOq (yM rfl rfl (by omega)) rfl ?_|refine xI rfl (by simp) rfl ?_|refine zC rfl rfl ?_|refine zF rfl rfl ?_|refine zH rfl rfl ?_|refine xP rfl rfl rfl ?_)))
    refine uF emp_in ?_
    have c4 := listedEdge_c yG xB (fun _ => 20) (f := 111) [lay w] [] Emp (fun _ => rfl) edge_one (fun _ _ h => wH h) w next (fun x _ p hp => ct_emp (edge11_c w p x (by omega))) a 1 8 (by decide) ((pre ++ b1) ++ b3) (by (try simp only [List.length_append]);omega)
    refine zA rfl (yT rfl c4 rfl (fun b4 g4 => ?_) (fun g4 => yK (by rw [e0];simp only [g1,g2,g3,g4,xH,xE,catO_none,catO_none',catO_some,yU,List.append_assoc,List.append_nil,List.nil_append])))
    have l4 := listO_len (by decide) (fun _ _ h => wH h) g4
    repeat (first|(first|refine zD ?_)|(first|((first|refine zA rfl ?_);first|refine JOq (yF rfl rfl (by omega)) rfl ?_)))
    exact vA rfl (show xS _ = some (b1 ++ (b3 ++ (b4))) by rw [e0];simp only [g1,g2,g3,g4,xH,xE,catO_none,catO_none',catO_some,yU,List.append_assoc,List.append_nil,List.nil_append]) (by simp) Ent.sel
set_option maxHeartbeats 2000000 in
theorem node41_c (hpre : pre.length + (100 + costs (fun _ => 20) next) ≤ 880000) : Ct Tryz.prog 53 #[lay w,.agg (wI ⟨4,prio,true,pay,next,a⟩).toArray] [WrB w pre,Vw 2 (slc a next.length) next.length (next.flatMap yG)] (uY (xS ⟨4,prio,true,pay,next,a⟩) w pre [Vw 2 (slc a next.length) next.length (next.flatMap yG)]) := by
    refine yE (vs := [lay w,.agg [.int .i64 4,.int .i64 prio,.bool true,.int .i64 pay.1,.int .i64 pay.2,slc a next.length].toArray]) Tryz.func53 rfl Tryz.ntmps53 (by simp) ?_
    have e0 : xS ⟨4,prio,true,pay,next,a⟩ = yY (xT 4 5) (yY (xR true) (yY (xT prio 1000) (yY (xR false) (xX 1 8 xB next)))) := by simp [xS,payOk]
    repeat (first|(first|refine zB ?_|refine zD ?_|refine zG ?_)|(first|((first|refine zA rfl ?_);first|refine xI rfl (by simp) rfl ?_|refine zF rfl rfl ?_|refine zH rfl rfl ?_|refine yB rfl rfl (fun r => ?_))))
    have c1 := wT w pre 4 5 (by (try simp only [List.length_append]);omega) (by decide)
    refine zA rfl (yT rfl c1 rfl (fun b1 g1 => ?_) (fun g1 => yK (by rw [e0];simp only [g1,xH,xE,catO_none,catO_none',catO_some,yU,List.append_assoc,List.append_nil,List.nil_append])))
    have l1 := xZ g1 (by decide)
    repeat (first|(first|refine zB ?_|refine zD ?_|refine zG ?_)|(first|((first|refine zA rfl ?_|refine zV rfl rfl ?_);first|refine JOq (tI rfl rfl (by omega)) rfl ?_|refine zE rfl rfl ?_|refine zC rfl rfl ?_|refine zF rfl rfl ?_|refine zH rfl rfl ?_|refine zU rfl rfl rfl ?_)|refine yN rfl rfl rfl ?_))
    refine zA rfl (xO rfl (xC true) rfl (fun _ => ?_) (fun h => absurd h (by decide)))
    repeat (first|(first|refine zB ?_|refine zD ?_|refine zG ?_)|(first|((first|refine zA rfl ?_);first|refine zE rfl rfl ?_|refine zF rfl rfl ?_|refine zH rfl rfl ?_|refine zU rfl rfl rfl ?_)|refine yN rfl rfl rfl ?_))
    refine zA rfl (xO rfl (xC true) rfl (fun _ => ?_) (fun h => absurd h (by decide)))
    repeat (first|(first|refine zB ?_|refine zD ?_|refine zG ?_|refine zL rfl ?_)|(first|((first|refine zA rfl ?_);first|refine xI rfl (by simp) rfl ?_|refine zE rfl rfl ?_|refine zF rfl rfl ?_|refine zH rfl rfl ?_)))
    have c2 := wT w (pre ++ b1) prio 1000 (by (try simp only [List.length_append]);omega) (by decide)
    refine zA rfl (yT rfl c2 rfl (fun b2 g2 => ?_) (fun g2 => yK (by rw [e0];simp only [g1,g2,xH,xE,catO_none,catO_none',catO_some,yU,List.append_assoc,List.append_nil,List.nil_append])))
    have l2 := xZ g2 (by decide)
    repeat (first|(first|refine zB ?_|refine zD ?_|refine zG ?_|refine zI ?_|refine zK rfl ?_)|(first|((first|refine zA rfl ?_);first|refine JOq (yM rfl rfl (by omega)) rfl ?_|refine xF rfl rfl ?_|refine zC rfl rfl ?_|refine zF rfl rfl ?_|refine zH rfl rfl ?_|refine xF rfl rfl ?_)))
    refine zA rfl (xO rfl (xC false) rfl (fun h => absurd h (by decide)) (fun _ => yK (by rw [e0];simp only [g1,g2,xH,xE,catO_none,catO_none',catO_some,yU,List.append_assoc,List.append_nil,List.nil_append])))
set_option maxHeartbeats 2000000 in
theorem node50_c (hpre : pre.length + (100 + costs (fun _ => 20) next) ≤ 880000) : Ct Tryz.prog 53 #[lay w,.agg (wI ⟨5,prio,false,pay,next,a⟩).toArray] [WrB w pre,Vw 2 (slc a next.length) next.length (next.flatMap yG)] (uY (xS ⟨5,prio,false,pay,next,a⟩) w pre [Vw 2 (slc a next.length) next.length (next.flatMap yG)]) := by
    refine yE (vs := [lay w,.agg [.int .i64 5,.int .i64 prio,.bool false,.int .i64 pay.1,.int .i64 pay.2,slc a next.length].toArray]) Tryz.func53 rfl Tryz.ntmps53 (by simp) ?_
    have e0 : xS ⟨5,prio,false,pay,next,a⟩ = yY (xT 5 5) (yY (xR (decide (prio = 0))) (yY (xR (pay.1 == 0 && pay.2 == 0)) (yY (xR true) (oneO next)))) := by simp [xS,payOk]
    repeat (first|(first|refine zB ?_|refine zD ?_|refine zG ?_)|(first|((first|refine zA rfl ?_);first|refine xI rfl (by simp) rfl ?_|refine zF rfl rfl ?_|refine zH rfl rfl ?_|refine yB rfl rfl (fun r => ?_))))
    have c1 := wT w pre 5 5 (by (try simp only [List.length_append]);omega) (by decide)
    refine zA rfl (yT rfl c1 rfl (fun b1 g1 => ?_) (fun g1 => yK (by rw [e0];simp only [g1,xH,xE,catO_none,catO_none',catO_some,yU,List.append_assoc,List.append_nil,List.nil_append])))
    have l1 := xZ g1 (by decide)
    repeat (first|(first|refine zB ?_|refine zD ?_|refine zG ?_)|(first|((first|refine zA rfl ?_|refine zV rfl rfl ?_);first|refine JOq (tI rfl rfl (by omega)) rfl ?_|refine JOq (JQ_neF rfl rfl (by omega)) rfl ?_|refine zE rfl rfl ?_|refine zC rfl rfl ?_|refine zF rfl rfl ?_|refine zH rfl rfl ?_|refine zU rfl rfl rfl ?_|refine zY rfl rfl rfl ?_|refine JO_eqI rfl rfl rfl ?_)))
    refine zA rfl (xO rfl (xC _) rfl (fun g2 => ?_) (fun g2 => yK (by rw [e0];simp only [g1,g2,xH,xE,catO_none,catO_none',catO_some,yU,List.append_assoc,List.append_nil,List.nil_append])))
    repeat (first|(first|refine zB ?_|refine zD ?_|refine zG ?_)|(first|((first|refine zA rfl ?_|refine zV rfl rfl ?_);first|refine JOq (JQ_eqAgg rfl rfl (eq_ii pay.1 pay.2 0 0 9998)) rfl ?_|refine yI (cs := yG (0,0)) rfl rfl rfl ?_|refine xI rfl (by simp) rfl ?_|refine zE rfl rfl ?_|refine zF rfl rfl ?_|refine zH rfl rfl ?_|refine zY rfl rfl rfl ?_)))
    refine zA rfl (xO rfl (xC _) rfl (fun g3 => ?_) (fun g3 => yK (by rw [e0];simp only [g1,g2,g3,xH,xE,catO_none,catO_none',catO_some,yU,List.append_assoc,List.append_nil,List.nil_append])))
    repeat (first|(first|refine zB ?_|refine zD ?_|refine zG ?_|refine zI ?_|refine zP ?_|refine zK rfl ?_)|(first|((first|refine zA rfl ?_);first|refine JOq (yM rfl rfl (by omega)) rfl ?_|refine xF rfl rfl ?_|refine zE rfl rfl ?_|refine zC rfl rfl ?_|refine zF rfl rfl ?_|refine zH rfl rfl ?_|refine xF rfl rfl ?_)))
    refine zA rfl (xO rfl (xC true) rfl (fun _ => ?_) (fun h => absurd h (by decide)))
    repeat (first|(first|refine zB ?_|refine zD ?_|refine zG ?_|refine zI ?_|refine zK rfl ?_)|(first|((first|refine zA rfl ?_);first|refine JOq (yM rfl rfl (by omega)) rfl ?_|refine zC rfl rfl ?_|refine yA rfl rfl ?_|refine zF rfl rfl ?_|refine zH rfl rfl ?_|refine JO_eqI rfl rfl rfl ?_)))
    refine zA rfl (xO rfl (xC _) rfl (fun g4 => ?_) (fun g4 => yK (by rw [e0,oneO_no g4];simp only [g1,g2,g3,xH,xE,catO_none,catO_none',catO_some,yU,List.append_assoc,List.append_nil,List.nil_append])))
    obtain ⟨e,rfl⟩ := one_of g4
    repeat (first|(first|refine zD ?_)|(first|((first|refine zA rfl ?_);first|refine JOq (yF rfl rfl (by omega)) rfl ?_)))
    refine vH (Vw 2 (slc a 1) 1 ([e].flatMap yG)) ?_
    refine wS (φ := ∃ b o,a.1 = some ⟨b,o,none⟩) (fun F w hs => hs.tail.out (fun k hk => wN (by decide) k hk)) (fun hp => ?_)
    obtain ⟨a1,a2⟩ := a
    dsimp only at hp
    obtain ⟨b,o,rfl⟩ := hp
    rw [show oneO [e] = xB e from rfl] at e0
    have c5 := edge11_c w (pre ++ b1) e (by (try simp only [List.length_append]);omega)
    repeat' (first|refine J_regionD ?_|refine JA_end rfl ?_|refine JA_step rfl ?_|exact jal_nil|refine jal_no rfl ?_|refine jal_yes rfl ?_ ?_|(first|((first|refine JA_op rfl rfl ?_);first|refine zF rfl rfl ?_|refine zH rfl rfl ?_|refine zQ rfl (by rfl) rfl ?_|refine xM (j := 0) rfl rfl (by simp) rfl ?_|refine JO_loadAL (yG e) rfl (fun i u hu => xJ (n := 1) (cap := a2) (j := 0) (by decide) (by simpa using hu)) rfl rfl ?_|refine yT rfl c5 rfl (fun b5 g5 => ?_) (fun g5 => yK (by rw [e0];simp only [g1,g2,g3,g5,xH,xE,catO_none,catO_none',catO_some,yU,List.append_assoc,List.append_nil,List.nil_append])))))
    all_goals exact vA rfl (show xS _ = some (b1 ++ (b5)) by rw [e0];simp only [g1,g2,g3,g5,xH,xE,catO_none,catO_none',catO_some,yU,List.append_assoc,List.append_nil,List.nil_append]) (by simp) Ent.sel
set_option maxHeartbeats 2000000 in
theorem node51_c (hpre : pre.length + (100 + costs (fun _ => 20) next) ≤ 880000) : Ct Tryz.prog 53 #[lay w,.agg (wI ⟨5,prio,true,pay,next,a⟩).toArray] [WrB w pre,Vw 2 (slc a next.length) next.length (next.flatMap yG)] (uY (xS ⟨5,prio,true,pay,next,a⟩) w pre [Vw 2 (slc a next.length) next.length (next.flatMap yG)]) := by
    refine yE (vs := [lay w,.agg [.int .i64 5,.int .i64 prio,.bool true,.int .i64 pay.1,.int .i64 pay.2,slc a next.length].toArray]) Tryz.func53 rfl Tryz.ntmps53 (by simp) ?_
    have e0 : xS ⟨5,prio,true,pay,next,a⟩ = yY (xT 5 5) (yY (xR (decide (prio = 0))) (yY (xR true) (yY (xR false) (oneO next)))) := by simp [xS,payOk]
    repeat (first|(first|refine zB ?_|refine zD ?_|refine zG ?_)|(first|((first|refine zA rfl ?_);first|refine xI rfl (by simp) rfl ?_|refine zF rfl rfl ?_|refine zH rfl rfl ?_|refine yB rfl rfl (fun r => ?_))))
    have c1 := wT w pre 5 5 (by (try simp only [List.length_append]);omega) (by decide)
    refine zA rfl (yT rfl c1 rfl (fun b1 g1 => ?_) (fun g1 => yK (by rw [e0];simp only [g1,xH,xE,catO_none,catO_none',catO_some,yU,List.append_assoc,List.append_nil,List.nil_append])))
    have l1 := xZ g1 (by decide)
    repeat (first|(first|refine zB ?_|refine zD ?_|refine zG ?_)|(first|((first|refine zA rfl ?_|refine zV rfl rfl ?_);first|refine JOq (tI rfl rfl (by omega)) rfl ?_|refine JOq (JQ_neF rfl rfl (by omega)) rfl ?_|refine zE rfl rfl ?_|refine zC rfl rfl ?_|refine zF rfl rfl ?_|refine zH rfl rfl ?_|refine zU rfl rfl rfl ?_|refine zY rfl rfl rfl ?_|refine JO_eqI rfl rfl rfl ?_)))
    refine zA rfl (xO rfl (xC _) rfl (fun g2 => ?_) (fun g2 => yK (by rw [e0];simp only [g1,g2,xH,xE,catO_none,catO_none',catO_some,yU,List.append_assoc,List.append_nil,List.nil_append])))
    repeat (first|(first|refine zB ?_|refine zD ?_|refine zG ?_)|(first|((first|refine zA rfl ?_);first|refine zE rfl rfl ?_|refine zF rfl rfl ?_|refine zH rfl rfl ?_|refine zU rfl rfl rfl ?_)|refine yN rfl rfl rfl ?_))
    refine zA rfl (xO rfl (xC true) rfl (fun _ => ?_) (fun h => absurd h (by decide)))
    repeat (first|(first|refine zB ?_|refine zD ?_|refine zG ?_|refine zI ?_|refine zP ?_|refine zK rfl ?_)|(first|((first|refine zA rfl ?_);first|refine JOq (yM rfl rfl (by omega)) rfl ?_|refine xF rfl rfl ?_|refine zE rfl rfl ?_|refine zC rfl rfl ?_|refine zF rfl rfl ?_|refine zH rfl rfl ?_|refine xF rfl rfl ?_)))
    refine zA rfl (xO rfl (xC false) rfl (fun h => absurd h (by decide)) (fun _ => yK (by rw [e0];simp only [g1,g2,xH,xE,catO_none,catO_none',catO_some,yU,List.append_assoc,List.append_nil,List.nil_append])))
end
end Go.Proofs.YtickblndgihoeaaGreatDoor
