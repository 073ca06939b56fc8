/- Layer 11: laying rows of things. -/
import Derived.Test.YtickblndgihoeaaGreatDoorM7
set_option linter.unusedSimpArgs false
namespace Go.Proofs.YtickblndgihoeaaGreatDoor
open Go Go.Sp
abbrev SA := Option Addr × Nat
abbrev slc (a : SA) (n : Nat) : Value := .slice a.1 n a.2
def Emp : HP := fun _ => True
theorem emp_in {L : List HP} : Ent L (Emp :: L) := fun _ _ hs => (hs.add trivial).swap
def uY {α : Type} (o : α → OB) : List α → OB
  | [] => some []
  | x :: l => xM (o x) (uY o l)
theorem catO_assoc (x y z : OB) : xM (xM x y) z = xM x (xM y z) := by
  cases x <;> cases y <;> cases z <;> simp [xM]
theorem mapO_snoc {α : Type} (o : α → OB) (x : α) : ∀ l : List α,uY o (l ++ [x]) = xM (uY o l) (o x)
  | [] => by
    show xM (o x) (some []) = xM (some []) (o x)
    cases o x <;> simp [xM]
  | y :: l => by
    show xM (o y) (uY o (l ++ [x])) = xM (xM (o y) (uY o l)) (o x)
    rw [mapO_snoc o x l,catO_assoc]
theorem mapO_bad {α : Type} {o : α → OB} {x : α} (h : o x = none) : ∀ {l : List α},x ∈ l → uY o l = none
  | y :: l,hm => by
    rcases List.mem_cons.1 hm with rfl | hm
    · show xM (o x) _ = none
      rw [h];rfl
    · show xM (o y) (uY o l) = none
      rw [mapO_bad h hm,catO_none']
def wH {α : Type} (least most : Int) (o : α → OB) (l : List α) : OB := if least ≤ (l.length : Int) then xM (wK l.length most) (uY o l) else none
def costs {α : Type} (cost : α → Nat) : List α → Nat
  | [] => 0
  | x :: l => cost x + costs cost l
theorem costs_snoc {α : Type} (cost : α → Nat) (x : α) : ∀ l : List α,costs cost (l ++ [x]) = costs cost l + cost x
  | [] => by simp [costs]
  | y :: l => by simp [costs,costs_snoc cost x l];omega
theorem costs_take {α : Type} (cost : α → Nat) : ∀ (l : List α) (i : Nat),costs cost (l.take i) ≤ costs cost l
  | [],i => by simp [costs]
  | y :: l,0 => by simp [costs]
  | y :: l,i + 1 => by have := costs_take cost l i;simp [costs];omega
theorem mapO_len {α : Type} {o : α → OB} {cost : α → Nat} (hc : ∀ x bs,o x = some bs → bs.length ≤ cost x) : ∀ {l : List α} {bs : List UInt8},uY o l = some bs → bs.length ≤ costs cost l
  | [],bs,h => by cases h;simp [costs]
  | x :: l,bs,h => by
    have h : xM (o x) (uY o l) = some bs := h
    cases h1 : o x with
    | none => rw [h1] at h;cases h
    | some a =>
      cases h2 : uY o l with
      | none => rw [h1,h2] at h;cases h
      | some b =>
        rw [h1,h2] at h
        cases h
        have := hc x a h1
        have := mapO_len hc h2
        simp [costs]
        omega
theorem listO_len {α : Type} {least most : Int} {o : α → OB} {cost : α → Nat} (hm : most ≤ 1000000) (hc : ∀ x bs,o x = some bs → bs.length ≤ cost x) {l : List α} {bs : List UInt8} (h : wH least most o l = some bs) : bs.length ≤ 10 + costs cost l := by
  unfold wH at h
  split at h
  · cases h1 : wK l.length most with
    | none => rw [h1] at h;cases h
    | some a =>
      cases h2 : uY o l with
      | none => rw [h1,h2] at h;cases h
      | some b =>
        rw [h1,h2] at h
        cases h
        have := vA h1 hm
        have := mapO_len hc h2
        simp
        omega
  · cases h
theorem listO_few {α : Type} {least most : Int} {o : α → OB} {l : List α} (h : ¬ least ≤ (l.length : Int)) : wH least most o l = none := by unfold wH;rw [if_neg h]
theorem uR {α : Type} {least most : Int} {o : α → OB} {l : List α} (h : least ≤ (l.length : Int)) : wH least most o l = xM (wK l.length most) (uY o l) := by unfold wH;rw [if_pos h]
theorem take_succ' {α : Type} {l : List α} {i : Nat} {x : α} (h : l[i]? = some x) : l.take (i + 1) = l.take i ++ [x] := by
  rw [List.take_add_one,h];rfl
attribute [local irreducible] callFunc Go.method J JL JO JR JR1 JRl Ct JG JM JM1 JW JW1 JQ JQ0 JS CtD xB WrB by8 wK Emp
section
variable {α : Type} (c : α → List Value) (o : α → OB) (cost : α → Nat) {f : FuncId} [CF Tryz.prog f] (fs cs : List Value) (A : HP)
set_option maxHeartbeats 2000000 in
theorem listedNode_c (hsz : ∀ x,(c x).length = 6) (h1 : ∀ x,∀ v ∈ c x,v.oneCell' = true) (hcost : ∀ x bs,o x = some bs → bs.length ≤ cost x) (w : Nat) (xs : List α) (hl : ∀ x ∈ xs,∀ pre : List UInt8,pre.length + cost x ≤ 880000 → Ct Tryz.prog f (fs ++ [Value.agg (c x).toArray] ++ cs).toArray [WrB w pre,A] (OutP (o x) w pre [A]))
    (a : SA) (least most : Int) (hm : most ≤ 1000000) (pre : List UInt8) (hpre : pre.length + 10 + costs cost xs ≤ 880000) :
    Ct Tryz.prog 52 #[lay w,slc a xs.length,.int .i64 least,.int .i64 most,.func (.func f) fs.toArray cs.toArray] [WrB w pre,Vw 6 (slc a xs.length) xs.length (xs.flatMap c),A] (OutP (wH least most o xs) w pre [Vw 6 (slc a xs.length) xs.length (xs.flatMap c),A]) := by
  refine yE (vs := [_,_,_,_,_]) Tryz.func52 rfl Tryz.ntmps52 (by simp) ?_
  have mc := xY (decide (least ≤ (xs.length : Int)))
  have n1 := uG w pre xs.length most (by omega) (by omega)
  repeat (first|(first|refine zB ?_|refine zE ?_|refine zG ?_)|(first|((first|refine zA rfl ?_);first|refine wN rfl mc rfl (fun g0 => ?_) (fun g0 => yW (listO_few (of_decide_eq_false g0)))|refine zD rfl rfl ?_|refine yF rfl rfl ?_|refine zU rfl (by rfl) rfl ?_|refine JO_geq rfl rfl rfl ?_|refine yN rfl rfl (fun r => ?_))))
  have g0 := of_decide_eq_true g0
  repeat (first|(first|refine zB ?_)|(first|((first|refine zA rfl ?_);first|refine zD rfl rfl ?_)))
  refine zA rfl (xJ rfl n1 rfl (fun b1 g1 => ?_) (fun g1 => yW (by rw [uR g0,g1];rfl)))
  have l1 := vA g1 hm
  have le1 := numO_le g1
  repeat (first|(first|refine zB ?_|refine zE ?_|refine zG ?_|refine zK ?_)|(first|((first|refine zA rfl ?_);first|refine zD rfl rfl ?_|refine yF rfl rfl ?_)))
  refine xU (β := { y : Nat × List UInt8 // y.1 ≤ xs.length ∧ uY o (xs.take y.1) = some y.2 }) (fun y => [(22,slc a xs.length),(23,.int .i64 (xs.length : Int)),(4,.func (.func f) fs.toArray cs.toArray),(24,.int .i64 (y.1.1 : Int))]) (fun _ => []) (fun y => [Vw 6 (slc a xs.length) xs.length (xs.flatMap c),A,WrB w ((pre ++ b1) ++ y.1.2)]) (fun y => xs.length - y.1.1) ⟨(0,[]),by simp,by simp [uY]⟩ ?_ rfl (by simp only [List.append_nil];exact Ent.sel) ?_
  · (repeat (first|exact zM _|refine zI rfl ?_))
  rintro ⟨⟨i,acc⟩,hi,hacc⟩
  dsimp only at hi hacc ⊢
  by_cases hx : i < xs.length
  · obtain ⟨x,hxi⟩ : ∃ x,xs[i]? = some x := ⟨_,List.getElem?_eq_getElem hx⟩
    have hxm : x ∈ xs := List.mem_of_getElem? hxi
    have hal := mapO_len hcost hacc
    have hct := costs_take cost xs (i + 1)
    rw [take_succ' hxi,costs_snoc] at hct
    have hlx := hl x hxm ((pre ++ b1) ++ acc) (by simp only [List.length_append];omega)
    repeat (first|(first|refine zB ?_|refine zE ?_|refine zG ?_|refine zK ?_|refine zP ?_|refine zL rfl ?_)|(first|((first|refine zA rfl ?_);first|refine JOq (yH rfl rfl (by omega)) rfl ?_|refine JO_indexV rfl rfl hx rfl (fun b o hld => ?_)|refine JO_loadAL (c x) rfl (fun j u hu => hld j u (by have := (List.getElem?_eq_some_iff.1 hu).1;rw [hsz] at this;exact this) (by rw [yY hsz _ _ _ _ (by have := (List.getElem?_eq_some_iff.1 hu).1;rw [hsz] at this;exact this) hxi];exact hu)) (hsz x) rfl ?_|refine zO rfl rfl (hsz x) (by rfl) (h1 x) rfl ?_|refine zU rfl (hsz x) rfl ?_|refine zD rfl rfl ?_|refine zS rfl (fun r => ?_))))
    refine zA rfl (JO_callCO rfl rfl hlx rfl (fun b2 g2 => ?_) (fun g2 => yW (by rw [uR g0,mapO_bad g2 hxm,catO_none'])))
    repeat (first|(first|refine zB ?_|refine zE ?_)|(first|((first|refine zA rfl ?_);first|refine yZ (b := 1) rfl rfl (by omega) rfl ?_|refine zD rfl rfl ?_)))
    exact ⟨⟨(i + 1,acc ++ b2),by simp only;omega,by simp only;rw [take_succ' hxi,mapO_snoc,hacc,g2];rfl⟩,by simp only;omega,by (repeat (first|exact zM _|refine zI rfl ?_)),rfl,by simp only [← List.append_assoc];exact Ent.sel⟩
  obtain rfl : i = xs.length := by omega
  rw [List.take_length] at hacc
  repeat (first|(first|refine zB ?_|refine zE ?_|refine zG ?_|refine zJ rfl ?_|refine xA ?_)|(first|((first|refine zA rfl ?_);first|refine JOq (yS rfl rfl (by omega)) rfl ?_)))
  exact uP rfl (by rw [uR g0,g1,hacc];rfl) (by simp) Ent.sel
set_option maxHeartbeats 2000000 in
theorem listedTemplate_c (hsz : ∀ x,(c x).length = 3) (h1 : ∀ x,∀ v ∈ c x,v.oneCell' = true) (hcost : ∀ x bs,o x = some bs → bs.length ≤ cost x) (w : Nat) (xs : List α) (hl : ∀ x ∈ xs,∀ pre : List UInt8,pre.length + cost x ≤ 880000 → Ct Tryz.prog f (fs ++ [Value.agg (c x).toArray] ++ cs).toArray [WrB w pre,A] (OutP (o x) w pre [A]))
    (a : SA) (least most : Int) (hm : most ≤ 1000000) (pre : List UInt8) (hpre : pre.length + 10 + costs cost xs ≤ 880000) :
    Ct Tryz.prog 55 #[lay w,slc a xs.length,.int .i64 least,.int .i64 most,.func (.func f) fs.toArray cs.toArray] [WrB w pre,Vw 3 (slc a xs.length) xs.length (xs.flatMap c),A] (OutP (wH least most o xs) w pre [Vw 3 (slc a xs.length) xs.length (xs.flatMap c),A]) := by
  refine yE (vs := [_,_,_,_,_]) Tryz.func55 rfl Tryz.ntmps55 (by simp) ?_
  have mc := xY (decide (least ≤ (xs.length : Int)))
  have n1 := uG w pre xs.length most (by omega) (by omega)
  repeat (first|(first|refine zB ?_|refine zE ?_|refine zG ?_)|(first|((first|refine zA rfl ?_);first|refine wN rfl mc rfl (fun g0 => ?_) (fun g0 => yW (listO_few (of_decide_eq_false g0)))|refine zD rfl rfl ?_|refine yF rfl rfl ?_|refine zU rfl (by rfl) rfl ?_|refine JO_geq rfl rfl rfl ?_|refine yN rfl rfl (fun r => ?_))))
  have g0 := of_decide_eq_true g0
  repeat (first|(first|refine zB ?_)|(first|((first|refine zA rfl ?_);first|refine zD rfl rfl ?_)))
  refine zA rfl (xJ rfl n1 rfl (fun b1 g1 => ?_) (fun g1 => yW (by rw [uR g0,g1];rfl)))
  have l1 := vA g1 hm
  have le1 := numO_le g1
  repeat (first|(first|refine zB ?_|refine zE ?_|refine zG ?_|refine zK ?_)|(first|((first|refine zA rfl ?_);first|refine zD rfl rfl ?_|refine yF rfl rfl ?_)))
  refine xU (β := { y : Nat × List UInt8 // y.1 ≤ xs.length ∧ uY o (xs.take y.1) = some y.2 }) (fun y => [(22,slc a xs.length),(23,.int .i64 (xs.length : Int)),(4,.func (.func f) fs.toArray cs.toArray),(24,.int .i64 (y.1.1 : Int))]) (fun _ => []) (fun y => [Vw 3 (slc a xs.length) xs.length (xs.flatMap c),A,WrB w ((pre ++ b1) ++ y.1.2)]) (fun y => xs.length - y.1.1) ⟨(0,[]),by simp,by simp [uY]⟩ ?_ rfl (by simp only [List.append_nil];exact Ent.sel) ?_
  · (repeat (first|exact zM _|refine zI rfl ?_))
  rintro ⟨⟨i,acc⟩,hi,hacc⟩
  dsimp only at hi hacc ⊢
  by_cases hx : i < xs.length
  · obtain ⟨x,hxi⟩ : ∃ x,xs[i]? = some x := ⟨_,List.getElem?_eq_getElem hx⟩
    have hxm : x ∈ xs := List.mem_of_getElem? hxi
    have hal := mapO_len hcost hacc
    have hct := costs_take cost xs (i + 1)
    rw [take_succ' hxi,costs_snoc] at hct
    have hlx := hl x hxm ((pre ++ b1) ++ acc) (by simp only [List.length_append];omega)
    repeat (first|(first|refine zB ?_|refine zE ?_|refine zG ?_|refine zK ?_|refine zP ?_|refine zL rfl ?_)|(first|((first|refine zA rfl ?_);first|refine JOq (yH rfl rfl (by omega)) rfl ?_|refine JO_indexV rfl rfl hx rfl (fun b o hld => ?_)|refine JO_loadAL (c x) rfl (fun j u hu => hld j u (by have := (List.getElem?_eq_some_iff.1 hu).1;rw [hsz] at this;exact this) (by rw [yY hsz _ _ _ _ (by have := (List.getElem?_eq_some_iff.1 hu).1;rw [hsz] at this;exact this) hxi];exact hu)) (hsz x) rfl ?_|refine zO rfl rfl (hsz x) (by rfl) (h1 x) rfl ?_|refine zU rfl (hsz x) rfl ?_|refine zD rfl rfl ?_|refine zS rfl (fun r => ?_))))
    refine zA rfl (JO_callCO rfl rfl hlx rfl (fun b2 g2 => ?_) (fun g2 => yW (by rw [uR g0,mapO_bad g2 hxm,catO_none'])))
    repeat (first|(first|refine zB ?_|refine zE ?_)|(first|((first|refine zA rfl ?_);first|refine yZ (b := 1) rfl rfl (by omega) rfl ?_|refine zD rfl rfl ?_)))
    exact ⟨⟨(i + 1,acc ++ b2),by simp only;omega,by simp only;rw [take_succ' hxi,mapO_snoc,hacc,g2];rfl⟩,by simp only;omega,by (repeat (first|exact zM _|refine zI rfl ?_)),rfl,by simp only [← List.append_assoc];exact Ent.sel⟩
  obtain rfl : i = xs.length := by omega
  rw [List.take_length] at hacc
  repeat (first|(first|refine zB ?_|refine zE ?_|refine zG ?_|refine zJ rfl ?_|refine xA ?_)|(first|((first|refine zA rfl ?_);first|refine JOq (yS rfl rfl (by omega)) rfl ?_)))
  exact uP rfl (by rw [uR g0,g1,hacc];rfl) (by simp) Ent.sel
set_option maxHeartbeats 2000000 in
theorem listedType_c (hsz : ∀ x,(c x).length = 2) (h1 : ∀ x,∀ v ∈ c x,v.oneCell' = true) (hcost : ∀ x bs,o x = some bs → bs.length ≤ cost x) (w : Nat) (xs : List α) (hl : ∀ x ∈ xs,∀ pre : List UInt8,pre.length + cost x ≤ 880000 → Ct Tryz.prog f (fs ++ [Value.agg (c x).toArray] ++ cs).toArray [WrB w pre,A] (OutP (o x) w pre [A]))
    (a : SA) (least most : Int) (hm : most ≤ 1000000) (pre : List UInt8) (hpre : pre.length + 10 + costs cost xs ≤ 880000) :
    Ct Tryz.prog 58 #[lay w,slc a xs.length,.int .i64 least,.int .i64 most,.func (.func f) fs.toArray cs.toArray] [WrB w pre,Vw 2 (slc a xs.length) xs.length (xs.flatMap c),A] (OutP (wH least most o xs) w pre [Vw 2 (slc a xs.length) xs.length (xs.flatMap c),A]) := by
  refine yE (vs := [_,_,_,_,_]) Tryz.func58 rfl Tryz.ntmps58 (by simp) ?_
  have mc := xY (decide (least ≤ (xs.length : Int)))
  have n1 := uG w pre xs.length most (by omega) (by omega)
  repeat (first|(first|refine zB ?_|refine zE ?_|refine zG ?_)|(first|((first|refine zA rfl ?_);first|refine wN rfl mc rfl (fun g0 => ?_) (fun g0 => yW (listO_few (of_decide_eq_false g0)))|refine zD rfl rfl ?_|refine yF rfl rfl ?_|refine zU rfl (by rfl) rfl ?_|refine JO_geq rfl rfl rfl ?_|refine yN rfl rfl (fun r => ?_))))
  have g0 := of_decide_eq_true g0
  repeat (first|(first|refine zB ?_)|(first|((first|refine zA rfl ?_);first|refine zD rfl rfl ?_)))
  refine zA rfl (xJ rfl n1 rfl (fun b1 g1 => ?_) (fun g1 => yW (by rw [uR g0,g1];rfl)))
  have l1 := vA g1 hm
  have le1 := numO_le g1
  repeat (first|(first|refine zB ?_|refine zE ?_|refine zG ?_|refine zK ?_)|(first|((first|refine zA rfl ?_);first|refine zD rfl rfl ?_|refine yF rfl rfl ?_)))
  refine xU (β := { y : Nat × List UInt8 // y.1 ≤ xs.length ∧ uY o (xs.take y.1) = some y.2 }) (fun y => [(22,slc a xs.length),(23,.int .i64 (xs.length : Int)),(4,.func (.func f) fs.toArray cs.toArray),(24,.int .i64 (y.1.1 : Int))]) (fun _ => []) (fun y => [Vw 2 (slc a xs.length) xs.length (xs.flatMap c),A,WrB w ((pre ++ b1) ++ y.1.2)]) (fun y => xs.length - y.1.1) ⟨(0,[]),by simp,by simp [uY]⟩ ?_ rfl (by simp only [List.append_nil];exact Ent.sel) ?_
  · (repeat (first|exact zM _|refine zI rfl ?_))
  rintro ⟨⟨i,acc⟩,hi,hacc⟩
  dsimp only at hi hacc ⊢
  by_cases hx : i < xs.length
  · obtain ⟨x,hxi⟩ : ∃ x,xs[i]? = some x := ⟨_,List.getElem?_eq_getElem hx⟩
    have hxm : x ∈ xs := List.mem_of_getElem? hxi
    have hal := mapO_len hcost hacc
    have hct := costs_take cost xs (i + 1)
    rw [take_succ' hxi,costs_snoc] at hct
    have hlx := hl x hxm ((pre ++ b1) ++ acc) (by simp only [List.length_append];omega)
    repeat (first|(first|refine zB ?_|refine zE ?_|refine zG ?_|refine zK ?_|refine zP ?_|refine zL rfl ?_)|(first|((first|refine zA rfl ?_);first|refine JOq (yH rfl rfl (by omega)) rfl ?_|refine JO_indexV rfl rfl hx rfl (fun b o hld => ?_)|refine JO_loadAL (c x) rfl (fun j u hu => hld j u (by have := (List.getElem?_eq_some_iff.1 hu).1;rw [hsz] at this;exact this) (by rw [yY hsz _ _ _ _ (by have := (List.getElem?_eq_some_iff.1 hu).1;rw [hsz] at this;exact this) hxi];exact hu)) (hsz x) rfl ?_|refine zO rfl rfl (hsz x) (by rfl) (h1 x) rfl ?_|refine zU rfl (hsz x) rfl ?_|refine zD rfl rfl ?_|refine zS rfl (fun r => ?_))))
    refine zA rfl (JO_callCO rfl rfl hlx rfl (fun b2 g2 => ?_) (fun g2 => yW (by rw [uR g0,mapO_bad g2 hxm,catO_none'])))
    repeat (first|(first|refine zB ?_|refine zE ?_)|(first|((first|refine zA rfl ?_);first|refine yZ (b := 1) rfl rfl (by omega) rfl ?_|refine zD rfl rfl ?_)))
    exact ⟨⟨(i + 1,acc ++ b2),by simp only;omega,by simp only;rw [take_succ' hxi,mapO_snoc,hacc,g2];rfl⟩,by simp only;omega,by (repeat (first|exact zM _|refine zI rfl ?_)),rfl,by simp only [← List.append_assoc];exact Ent.sel⟩
  obtain rfl : i = xs.length := by omega
  rw [List.take_length] at hacc
  repeat (first|(first|refine zB ?_|refine zE ?_|refine zG ?_|refine zJ rfl ?_|refine xA ?_)|(first|((first|refine zA rfl ?_);first|refine JOq (yS rfl rfl (by omega)) rfl ?_)))
  exact uP rfl (by rw [uR g0,g1,hacc];rfl) (by simp) Ent.sel
set_option maxHeartbeats 2000000 in
theorem listedStart_c (hsz : ∀ x,(c x).length = 2) (h1 : ∀ x,∀ v ∈ c x,v.oneCell' = true) (hcost : ∀ x bs,o x = some bs → bs.length ≤ cost x) (w : Nat) (xs : List α) (hl : ∀ x ∈ xs,∀ pre : List UInt8,pre.length + cost x ≤ 880000 → Ct Tryz.prog f (fs ++ [Value.agg (c x).toArray] ++ cs).toArray [WrB w pre,A] (OutP (o x) w pre [A]))
    (a : SA) (least most : Int) (hm : most ≤ 1000000) (pre : List UInt8) (hpre : pre.length + 10 + costs cost xs ≤ 880000) :
    Ct Tryz.prog 60 #[lay w,slc a xs.length,.int .i64 least,.int .i64 most,.func (.func f) fs.toArray cs.toArray] [WrB w pre,Vw 2 (slc a xs.length) xs.length (xs.flatMap c),A] (OutP (wH least most o xs) w pre [Vw 2 (slc a xs.length) xs.length (xs.flatMap c),A]) := by
  refine yE (vs := [_,_,_,_,_]) Tryz.func60 rfl Tryz.ntmps60 (by simp) ?_
  have mc := xY (decide (least ≤ (xs.length : Int)))
  have n1 := uG w pre xs.length most (by omega) (by omega)
  repeat (first|(first|refine zB ?_|refine zE ?_|refine zG ?_)|(first|((first|refine zA rfl ?_);first|refine wN rfl mc rfl (fun g0 => ?_) (fun g0 => yW (listO_few (of_decide_eq_false g0)))|refine zD rfl rfl ?_|refine yF rfl rfl ?_|refine zU rfl (by rfl) rfl ?_|refine JO_geq rfl rfl rfl ?_|refine yN rfl rfl (fun r => ?_))))
  have g0 := of_decide_eq_true g0
  repeat (first|(first|refine zB ?_)|(first|((first|refine zA rfl ?_);first|refine zD rfl rfl ?_)))
  refine zA rfl (xJ rfl n1 rfl (fun b1 g1 => ?_) (fun g1 => yW (by rw [uR g0,g1];rfl)))
  have l1 := vA g1 hm
  have le1 := numO_le g1
  repeat (first|(first|refine zB ?_|refine zE ?_|refine zG ?_|refine zK ?_)|(first|((first|refine zA rfl ?_);first|refine zD rfl rfl ?_|refine yF rfl rfl ?_)))
  refine xU (β := { y : Nat × List UInt8 // y.1 ≤ xs.length ∧ uY o (xs.take y.1) = some y.2 }) (fun y => [(22,slc a xs.length),(23,.int .i64 (xs.length : Int)),(4,.func (.func f) fs.toArray cs.toArray),(24,.int .i64 (y.1.1 : Int))]) (fun _ => []) (fun y => [Vw 2 (slc a xs.length) xs.length (xs.flatMap c),A,WrB w ((pre ++ b1) ++ y.1.2)]) (fun y => xs.length - y.1.1) ⟨(0,[]),by simp,by simp [uY]⟩ ?_ rfl (by simp only [List.append_nil];exact Ent.sel) ?_
  · (repeat (first|exact zM _|refine zI rfl ?_))
  rintro ⟨⟨i,acc⟩,hi,hacc⟩
  dsimp only at hi hacc ⊢
  by_cases hx : i < xs.length
  · obtain ⟨x,hxi⟩ : ∃ x,xs[i]? = some x := ⟨_,List.getElem?_eq_getElem hx⟩
    have hxm : x ∈ xs := List.mem_of_getElem? hxi
    have hal := mapO_len hcost hacc
    have hct := costs_take cost xs (i + 1)
    rw [take_succ' hxi,costs_snoc] at hct
    have hlx := hl x hxm ((pre ++ b1) ++ acc) (by simp only [List.length_append];omega)
    repeat (first|(first|refine zB ?_|refine zE ?_|refine zG ?_|refine zK ?_|refine zP ?_|refine zL rfl ?_)|(first|((first|refine zA rfl ?_);first|refine JOq (yH rfl rfl (by omega)) rfl ?_|refine JO_indexV rfl rfl hx rfl (fun b o hld => ?_)|refine JO_loadAL (c x) rfl (fun j u hu => hld j u (by have := (List.getElem?_eq_some_iff.1 hu).1;rw [hsz] at this;exact this) (by rw [yY hsz _ _ _ _ (by have := (List.getElem?_eq_some_iff.1 hu).1;rw [hsz] at this;exact this) hxi];exact hu)) (hsz x) rfl ?_|refine zO rfl rfl (hsz x) (by rfl) (h1 x) rfl ?_|refine zU rfl (hsz x) rfl ?_|refine zD rfl rfl ?_|refine zS rfl (fun r => ?_))))
    refine zA rfl (JO_callCO rfl rfl hlx rfl (fun b2 g2 => ?_) (fun g2 => yW (by rw [uR g0,mapO_bad g2 hxm,catO_none'])))
    repeat (first|(first|refine zB ?_|refine zE ?_)|(first|((first|refine zA rfl ?_);first|refine yZ (b := 1) rfl rfl (by omega) rfl ?_|refine zD rfl rfl ?_)))
    exact ⟨⟨(i + 1,acc ++ b2),by simp only;omega,by simp only;rw [take_succ' hxi,mapO_snoc,hacc,g2];rfl⟩,by simp only;omega,by (repeat (first|exact zM _|refine zI rfl ?_)),rfl,by simp only [← List.append_assoc];exact Ent.sel⟩
  obtain rfl : i = xs.length := by omega
  rw [List.take_length] at hacc
  repeat (first|(first|refine zB ?_|refine zE ?_|refine zG ?_|refine zJ rfl ?_|refine xA ?_)|(first|((first|refine zA rfl ?_);first|refine JOq (yS rfl rfl (by omega)) rfl ?_)))
  exact uP rfl (by rw [uR g0,g1,hacc];rfl) (by simp) Ent.sel
set_option maxHeartbeats 2000000 in
theorem listedEdge_c (hsz : ∀ x,(c x).length = 2) (h1 : ∀ x,∀ v ∈ c x,v.oneCell' = true) (hcost : ∀ x bs,o x = some bs → bs.length ≤ cost x) (w : Nat) (xs : List α) (hl : ∀ x ∈ xs,∀ pre : List UInt8,pre.length + cost x ≤ 880000 → Ct Tryz.prog f (fs ++ [Value.agg (c x).toArray] ++ cs).toArray [WrB w pre,A] (OutP (o x) w pre [A]))
    (a : SA) (least most : Int) (hm : most ≤ 1000000) (pre : List UInt8) (hpre : pre.length + 10 + costs cost xs ≤ 880000) :
    Ct Tryz.prog 112 #[lay w,slc a xs.length,.int .i64 least,.int .i64 most,.func (.func f) fs.toArray cs.toArray] [WrB w pre,Vw 2 (slc a xs.length) xs.length (xs.flatMap c),A] (OutP (wH least most o xs) w pre [Vw 2 (slc a xs.length) xs.length (xs.flatMap c),A]) := by
  refine yE (vs := [_,_,_,_,_]) Tryz.func112 rfl Tryz.ntmps112 (by simp) ?_
  have mc := xY (decide (least ≤ (xs.length : Int)))
  have n1 := uG w pre xs.length most (by omega) (by omega)
  repeat (first|(first|refine zB ?_|refine zE ?_|refine zG ?_)|(first|((first|refine zA rfl ?_);first|refine wN rfl mc rfl (fun g0 => ?_) (fun g0 => yW (listO_few (of_decide_eq_false g0)))|refine zD rfl rfl ?_|refine yF rfl rfl ?_|refine zU rfl (by rfl) rfl ?_|refine JO_geq rfl rfl rfl ?_|refine yN rfl rfl (fun r => ?_))))
  have g0 := of_decide_eq_true g0
  repeat (first|(first|refine zB ?_)|(first|((first|refine zA rfl ?_);first|refine zD rfl rfl ?_)))
  refine zA rfl (xJ rfl n1 rfl (fun b1 g1 => ?_) (fun g1 => yW (by rw [uR g0,g1];rfl)))
  have l1 := vA g1 hm
  have le1 := numO_le g1
  repeat (first|(first|refine zB ?_|refine zE ?_|refine zG ?_|refine zK ?_)|(first|((first|refine zA rfl ?_);first|refine zD rfl rfl ?_|refine yF rfl rfl ?_)))
  refine xU (β := { y : Nat × List UInt8 // y.1 ≤ xs.length ∧ uY o (xs.take y.1) = some y.2 }) (fun y => [(22,slc a xs.length),(23,.int .i64 (xs.length : Int)),(4,.func (.func f) fs.toArray cs.toArray),(24,.int .i64 (y.1.1 : Int))]) (fun _ => []) (fun y => [Vw 2 (slc a xs.length) xs.length (xs.flatMap c),A,WrB w ((pre ++ b1) ++ y.1.2)]) (fun y => xs.length - y.1.1) ⟨(0,[]),by simp,by simp [uY]⟩ ?_ rfl (by simp only [List.append_nil];exact Ent.sel) ?_
  · (repeat (first|exact zM _|refine zI rfl ?_))
  rintro ⟨⟨i,acc⟩,hi,hacc⟩
  dsimp only at hi hacc ⊢
  by_cases hx : i < xs.length
  · obtain ⟨x,hxi⟩ : ∃ x,xs[i]? = some x := ⟨_,List.getElem?_eq_getElem hx⟩
    have hxm : x ∈ xs := List.mem_of_getElem? hxi
    have hal := mapO_len hcost hacc
    have hct := costs_take cost xs (i + 1)
    rw [take_succ' hxi,costs_snoc] at hct
    have hlx := hl x hxm ((pre ++ b1) ++ acc) (by simp only [List.length_append];omega)
    repeat (first|(first|refine zB ?_|refine zE ?_|refine zG ?_|refine zK ?_|refine zP ?_|refine zL rfl ?_)|(first|((first|refine zA rfl ?_);first|refine JOq (yH rfl rfl (by omega)) rfl ?_|refine JO_indexV rfl rfl hx rfl (fun b o hld => ?_)|refine JO_loadAL (c x) rfl (fun j u hu => hld j u (by have := (List.getElem?_eq_some_iff.1 hu).1;rw [hsz] at this;exact this) (by rw [yY hsz _ _ _ _ (by have := (List.getElem?_eq_some_iff.1 hu).1;rw [hsz] at this;exact this) hxi];exact hu)) (hsz x) rfl ?_|refine zO rfl rfl (hsz x) (by rfl) (h1 x) rfl ?_|refine zU rfl (hsz x) rfl ?_|refine zD rfl rfl ?_|refine zS rfl (fun r => ?_))))
    refine zA rfl (JO_callCO rfl rfl hlx rfl (fun b2 g2 => ?_) (fun g2 => yW (by rw [uR g0,mapO_bad g2 hxm,catO_none'])))
    repeat (first|(first|refine zB ?_|refine zE ?_)|(first|((first|refine zA rfl ?_);first|refine yZ (b := 1) rfl rfl (by omega) rfl ?_|refine zD rfl rfl ?_)))
    exact ⟨⟨(i + 1,acc ++ b2),by simp only;omega,by simp only;rw [take_succ' hxi,mapO_snoc,hacc,g2];rfl⟩,by simp only;omega,by (repeat (first|exact zM _|refine zI rfl ?_)),rfl,by simp only [← List.append_assoc];exact Ent.sel⟩
  obtain rfl : i = xs.length := by omega
  rw [List.take_length] at hacc
  repeat (first|(first|refine zB ?_|refine zE ?_|refine zG ?_|refine zJ rfl ?_|refine xA ?_)|(first|((first|refine zA rfl ?_);first|refine JOq (yS rfl rfl (by omega)) rfl ?_)))
  exact uP rfl (by rw [uR g0,g1,hacc];rfl) (by simp) Ent.sel
set_option maxHeartbeats 2000000 in
theorem listedParam_c (hsz : ∀ x,(c x).length = 3) (h1 : ∀ x,∀ v ∈ c x,v.oneCell' = true) (hcost : ∀ x bs,o x = some bs → bs.length ≤ cost x) (w : Nat) (xs : List α) (hl : ∀ x ∈ xs,∀ pre : List UInt8,pre.length + cost x ≤ 880000 → Ct Tryz.prog f (fs ++ [Value.agg (c x).toArray] ++ cs).toArray [WrB w pre,A] (OutP (o x) w pre [A]))
    (a : SA) (least most : Int) (hm : most ≤ 1000000) (pre : List UInt8) (hpre : pre.length + 10 + costs cost xs ≤ 880000) :
    Ct Tryz.prog 113 #[lay w,slc a xs.length,.int .i64 least,.int .i64 most,.func (.func f) fs.toArray cs.toArray] [WrB w pre,Vw 3 (slc a xs.length) xs.length (xs.flatMap c),A] (OutP (wH least most o xs) w pre [Vw 3 (slc a xs.length) xs.length (xs.flatMap c),A]) := by
  refine yE (vs := [_,_,_,_,_]) Tryz.func113 rfl Tryz.ntmps113 (by simp) ?_
  have mc := xY (decide (least ≤ (xs.length : Int)))
  have n1 := uG w pre xs.length most (by omega) (by omega)
  repeat (first|(first|refine zB ?_|refine zE ?_|refine zG ?_)|(first|((first|refine zA rfl ?_);first|refine wN rfl mc rfl (fun g0 => ?_) (fun g0 => yW (listO_few (of_decide_eq_false g0)))|refine zD rfl rfl ?_|refine yF rfl rfl ?_|refine zU rfl (by rfl) rfl ?_|refine JO_geq rfl rfl rfl ?_|refine yN rfl rfl (fun r => ?_))))
  have g0 := of_decide_eq_true g0
  repeat (first|(first|refine zB ?_)|(first|((first|refine zA rfl ?_);first|refine zD rfl rfl ?_)))
  refine zA rfl (xJ rfl n1 rfl (fun b1 g1 => ?_) (fun g1 => yW (by rw [uR g0,g1];rfl)))
  have l1 := vA g1 hm
  have le1 := numO_le g1
  repeat (first|(first|refine zB ?_|refine zE ?_|refine zG ?_|refine zK ?_)|(first|((first|refine zA rfl ?_);first|refine zD rfl rfl ?_|refine yF rfl rfl ?_)))
  refine xU (β := { y : Nat × List UInt8 // y.1 ≤ xs.length ∧ uY o (xs.take y.1) = some y.2 }) (fun y => [(22,slc a xs.length),(23,.int .i64 (xs.length : Int)),(4,.func (.func f) fs.toArray cs.toArray),(24,.int .i64 (y.1.1 : Int))]) (fun _ => []) (fun y => [Vw 3 (slc a xs.length) xs.length (xs.flatMap c),A,WrB w ((pre ++ b1) ++ y.1.2)]) (fun y => xs.length - y.1.1) ⟨(0,[]),by simp,by simp [uY]⟩ ?_ rfl (by simp only [List.append_nil];exact Ent.sel) ?_
  · (repeat (first|exact zM _|refine zI rfl ?_))
  rintro ⟨⟨i,acc⟩,hi,hacc⟩
  dsimp only at hi hacc ⊢
  by_cases hx : i < xs.length
  · obtain ⟨x,hxi⟩ : ∃ x,xs[i]? = some x := ⟨_,List.getElem?_eq_getElem hx⟩
    have hxm : x ∈ xs := List.mem_of_getElem? hxi
    have hal := mapO_len hcost hacc
    have hct := costs_take cost xs (i + 1)
    rw [take_succ' hxi,costs_snoc] at hct
    have hlx := hl x hxm ((pre ++ b1) ++ acc) (by simp only [List.length_append];omega)
    repeat (first|(first|refine zB ?_|refine zE ?_|refine zG ?_|refine zK ?_|refine zP ?_|refine zL rfl ?_)|(first|((first|refine zA rfl ?_);first|refine JOq (yH rfl rfl (by omega)) rfl ?_|refine JO_indexV rfl rfl hx rfl (fun b o hld => ?_)|refine JO_loadAL (c x) rfl (fun j u hu => hld j u (by have := (List.getElem?_eq_some_iff.1 hu).1;rw [hsz] at this;exact this) (by rw [yY hsz _ _ _ _ (by have := (List.getElem?_eq_some_iff.1 hu).1;rw [hsz] at this;exact this) hxi];exact hu)) (hsz x) rfl ?_|refine zO rfl rfl (hsz x) (by rfl) (h1 x) rfl ?_|refine zU rfl (hsz x) rfl ?_|refine zD rfl rfl ?_|refine zS rfl (fun r => ?_))))
    refine zA rfl (JO_callCO rfl rfl hlx rfl (fun b2 g2 => ?_) (fun g2 => yW (by rw [uR g0,mapO_bad g2 hxm,catO_none'])))
    repeat (first|(first|refine zB ?_|refine zE ?_)|(first|((first|refine zA rfl ?_);first|refine yZ (b := 1) rfl rfl (by omega) rfl ?_|refine zD rfl rfl ?_)))
    exact ⟨⟨(i + 1,acc ++ b2),by simp only;omega,by simp only;rw [take_succ' hxi,mapO_snoc,hacc,g2];rfl⟩,by simp only;omega,by (repeat (first|exact zM _|refine zI rfl ?_)),rfl,by simp only [← List.append_assoc];exact Ent.sel⟩
  obtain rfl : i = xs.length := by omega
  rw [List.take_length] at hacc
  repeat (first|(first|refine zB ?_|refine zE ?_|refine zG ?_|refine zJ rfl ?_|refine xA ?_)|(first|((first|refine zA rfl ?_);first|refine JOq (yS rfl rfl (by omega)) rfl ?_)))
  exact uP rfl (by rw [uR g0,g1,hacc];rfl) (by simp) Ent.sel
set_option maxHeartbeats 2000000 in
theorem listedInsn_c (hsz : ∀ x,(c x).length = 6) (h1 : ∀ x,∀ v ∈ c x,v.oneCell' = true) (hcost : ∀ x bs,o x = some bs → bs.length ≤ cost x) (w : Nat) (xs : List α) (hl : ∀ x ∈ xs,∀ pre : List UInt8,pre.length + cost x ≤ 880000 → Ct Tryz.prog f (fs ++ [Value.agg (c x).toArray] ++ cs).toArray [WrB w pre,A] (OutP (o x) w pre [A]))
    (a : SA) (least most : Int) (hm : most ≤ 1000000) (pre : List UInt8) (hpre : pre.length + 10 + costs cost xs ≤ 880000) :
    Ct Tryz.prog 115 #[lay w,slc a xs.length,.int .i64 least,.int .i64 most,.func (.func f) fs.toArray cs.toArray] [WrB w pre,Vw 6 (slc a xs.length) xs.length (xs.flatMap c),A] (OutP (wH least most o xs) w pre [Vw 6 (slc a xs.length) xs.length (xs.flatMap c),A]) := by
  refine yE (vs := [_,_,_,_,_]) Tryz.func115 rfl Tryz.ntmps115 (by simp) ?_
  have mc := xY (decide (least ≤ (xs.length : Int)))
  have n1 := uG w pre xs.length most (by omega) (by omega)
  repeat (first|(first|refine zB ?_|refine zE ?_|refine zG ?_)|(first|((first|refine zA rfl ?_);first|refine wN rfl mc rfl (fun g0 => ?_) (fun g0 => yW (listO_few (of_decide_eq_false g0)))|refine zD rfl rfl ?_|refine yF rfl rfl ?_|refine zU rfl (by rfl) rfl ?_|refine JO_geq rfl rfl rfl ?_|refine yN rfl rfl (fun r => ?_))))
  have g0 := of_decide_eq_true g0
  repeat (first|(first|refine zB ?_)|(first|((first|refine zA rfl ?_);first|refine zD rfl rfl ?_)))
  refine zA rfl (xJ rfl n1 rfl (fun b1 g1 => ?_) (fun g1 => yW (by rw [uR g0,g1];rfl)))
  have l1 := vA g1 hm
  have le1 := numO_le g1
  repeat (first|(first|refine zB ?_|refine zE ?_|refine zG ?_|refine zK ?_)|(first|((first|refine zA rfl ?_);first|refine zD rfl rfl ?_|refine yF rfl rfl ?_)))
  refine xU (β := { y : Nat × List UInt8 // y.1 ≤ xs.length ∧ uY o (xs.take y.1) = some y.2 }) (fun y => [(22,slc a xs.length),(23,.int .i64 (xs.length : Int)),(4,.func (.func f) fs.toArray cs.toArray),(24,.int .i64 (y.1.1 : Int))]) (fun _ => []) (fun y => [Vw 6 (slc a xs.length) xs.length (xs.flatMap c),A,WrB w ((pre ++ b1) ++ y.1.2)]) (fun y => xs.length - y.1.1) ⟨(0,[]),by simp,by simp [uY]⟩ ?_ rfl (by simp only [List.append_nil];exact Ent.sel) ?_
  · (repeat (first|exact zM _|refine zI rfl ?_))
  rintro ⟨⟨i,acc⟩,hi,hacc⟩
  dsimp only at hi hacc ⊢
  by_cases hx : i < xs.length
  · obtain ⟨x,hxi⟩ : ∃ x,xs[i]? = some x := ⟨_,List.getElem?_eq_getElem hx⟩
    have hxm : x ∈ xs := List.mem_of_getElem? hxi
    have hal := mapO_len hcost hacc
    have hct := costs_take cost xs (i + 1)
    rw [take_succ' hxi,costs_snoc] at hct
    have hlx := hl x hxm ((pre ++ b1) ++ acc) (by simp only [List.length_append];omega)
    repeat (first|(first|refine zB ?_|refine zE ?_|refine zG ?_|refine zK ?_|refine zP ?_|refine zL rfl ?_)|(first|((first|refine zA rfl ?_);first|refine JOq (yH rfl rfl (by omega)) rfl ?_|refine JO_indexV rfl rfl hx rfl (fun b o hld => ?_)|refine JO_loadAL (c x) rfl (fun j u hu => hld j u (by have := (List.getElem?_eq_some_iff.1 hu).1;rw [hsz] at this;exact this) (by rw [yY hsz _ _ _ _ (by have := (List.getElem?_eq_some_iff.1 hu).1;rw [hsz] at this;exact this) hxi];exact hu)) (hsz x) rfl ?_|refine zO rfl rfl (hsz x) (by rfl) (h1 x) rfl ?_|refine zU rfl (hsz x) rfl ?_|refine zD rfl rfl ?_|refine zS rfl (fun r => ?_))))
    refine zA rfl (JO_callCO rfl rfl hlx rfl (fun b2 g2 => ?_) (fun g2 => yW (by rw [uR g0,mapO_bad g2 hxm,catO_none'])))
    repeat (first|(first|refine zB ?_|refine zE ?_)|(first|((first|refine zA rfl ?_);first|refine yZ (b := 1) rfl rfl (by omega) rfl ?_|refine zD rfl rfl ?_)))
    exact ⟨⟨(i + 1,acc ++ b2),by simp only;omega,by simp only;rw [take_succ' hxi,mapO_snoc,hacc,g2];rfl⟩,by simp only;omega,by (repeat (first|exact zM _|refine zI rfl ?_)),rfl,by simp only [← List.append_assoc];exact Ent.sel⟩
  obtain rfl : i = xs.length := by omega
  rw [List.take_length] at hacc
  repeat (first|(first|refine zB ?_|refine zE ?_|refine zG ?_|refine zJ rfl ?_|refine xA ?_)|(first|((first|refine zA rfl ?_);first|refine JOq (yS rfl rfl (by omega)) rfl ?_)))
  exact uP rfl (by rw [uR g0,g1,hacc];rfl) (by simp) Ent.sel
set_option maxHeartbeats 2000000 in
theorem listedArg_c (hsz : ∀ x,(c x).length = 3) (h1 : ∀ x,∀ v ∈ c x,v.oneCell' = true) (hcost : ∀ x bs,o x = some bs → bs.length ≤ cost x) (w : Nat) (xs : List α) (hl : ∀ x ∈ xs,∀ pre : List UInt8,pre.length + cost x ≤ 880000 → Ct Tryz.prog f (fs ++ [Value.agg (c x).toArray] ++ cs).toArray [WrB w pre,A] (OutP (o x) w pre [A]))
    (a : SA) (least most : Int) (hm : most ≤ 1000000) (pre : List UInt8) (hpre : pre.length + 10 + costs cost xs ≤ 880000) :
    Ct Tryz.prog 118 #[lay w,slc a xs.length,.int .i64 least,.int .i64 most,.func (.func f) fs.toArray cs.toArray] [WrB w pre,Vw 3 (slc a xs.length) xs.length (xs.flatMap c),A] (OutP (wH least most o xs) w pre [Vw 3 (slc a xs.length) xs.length (xs.flatMap c),A]) := by
  refine yE (vs := [_,_,_,_,_]) Tryz.func118 rfl Tryz.ntmps118 (by simp) ?_
  have mc := xY (decide (least ≤ (xs.length : Int)))
  have n1 := uG w pre xs.length most (by omega) (by omega)
  repeat (first|(first|refine zB ?_|refine zE ?_|refine zG ?_)|(first|((first|refine zA rfl ?_);first|refine wN rfl mc rfl (fun g0 => ?_) (fun g0 => yW (listO_few (of_decide_eq_false g0)))|refine zD rfl rfl ?_|refine yF rfl rfl ?_|refine zU rfl (by rfl) rfl ?_|refine JO_geq rfl rfl rfl ?_|refine yN rfl rfl (fun r => ?_))))
  have g0 := of_decide_eq_true g0
  repeat (first|(first|refine zB ?_)|(first|((first|refine zA rfl ?_);first|refine zD rfl rfl ?_)))
  refine zA rfl (xJ rfl n1 rfl (fun b1 g1 => ?_) (fun g1 => yW (by rw [uR g0,g1];rfl)))
  have l1 := vA g1 hm
  have le1 := numO_le g1
  repeat (first|(first|refine zB ?_|refine zE ?_|refine zG ?_|refine zK ?_)|(first|((first|refine zA rfl ?_);first|refine zD rfl rfl ?_|refine yF rfl rfl ?_)))
  refine xU (β := { y : Nat × List UInt8 // y.1 ≤ xs.length ∧ uY o (xs.take y.1) = some y.2 }) (fun y => [(22,slc a xs.length),(23,.int .i64 (xs.length : Int)),(4,.func (.func f) fs.toArray cs.toArray),(24,.int .i64 (y.1.1 : Int))]) (fun _ => []) (fun y => [Vw 3 (slc a xs.length) xs.length (xs.flatMap c),A,WrB w ((pre ++ b1) ++ y.1.2)]) (fun y => xs.length - y.1.1) ⟨(0,[]),by simp,by simp [uY]⟩ ?_ rfl (by simp only [List.append_nil];exact Ent.sel) ?_
  · (repeat (first|exact zM _|refine zI rfl ?_))
  rintro ⟨⟨i,acc⟩,hi,hacc⟩
  dsimp only at hi hacc ⊢
  by_cases hx : i < xs.length
  · obtain ⟨x,hxi⟩ : ∃ x,xs[i]? = some x := ⟨_,List.getElem?_eq_getElem hx⟩
    have hxm : x ∈ xs := List.mem_of_getElem? hxi
    have hal := mapO_len hcost hacc
    have hct := costs_take cost xs (i + 1)
    rw [take_succ' hxi,costs_snoc] at hct
    have hlx := hl x hxm ((pre ++ b1) ++ acc) (by simp only [List.length_append];omega)
    repeat (first|(first|refine zB ?_|refine zE ?_|refine zG ?_|refine zK ?_|refine zP ?_|refine zL rfl ?_)|(first|((first|refine zA rfl ?_);first|refine JOq (yH rfl rfl (by omega)) rfl ?_|refine JO_indexV rfl rfl hx rfl (fun b o hld => ?_)|refine JO_loadAL (c x) rfl (fun j u hu => hld j u (by have := (List.getElem?_eq_some_iff.1 hu).1;rw [hsz] at this;exact this) (by rw [yY hsz _ _ _ _ (by have := (List.getElem?_eq_some_iff.1 hu).1;rw [hsz] at this;exact this) hxi];exact hu)) (hsz x) rfl ?_|refine zO rfl rfl (hsz x) (by rfl) (h1 x) rfl ?_|refine zU rfl (hsz x) rfl ?_|refine zD rfl rfl ?_|refine zS rfl (fun r => ?_))))
    refine zA rfl (JO_callCO rfl rfl hlx rfl (fun b2 g2 => ?_) (fun g2 => yW (by rw [uR g0,mapO_bad g2 hxm,catO_none'])))
    repeat (first|(first|refine zB ?_|refine zE ?_)|(first|((first|refine zA rfl ?_);first|refine yZ (b := 1) rfl rfl (by omega) rfl ?_|refine zD rfl rfl ?_)))
    exact ⟨⟨(i + 1,acc ++ b2),by simp only;omega,by simp only;rw [take_succ' hxi,mapO_snoc,hacc,g2];rfl⟩,by simp only;omega,by (repeat (first|exact zM _|refine zI rfl ?_)),rfl,by simp only [← List.append_assoc];exact Ent.sel⟩
  obtain rfl : i = xs.length := by omega
  rw [List.take_length] at hacc
  repeat (first|(first|refine zB ?_|refine zE ?_|refine zG ?_|refine zJ rfl ?_|refine xA ?_)|(first|((first|refine zA rfl ?_);first|refine JOq (yS rfl rfl (by omega)) rfl ?_)))
  exact uP rfl (by rw [uR g0,g1,hacc];rfl) (by simp) Ent.sel
end
end Go.Proofs.YtickblndgihoeaaGreatDoor
