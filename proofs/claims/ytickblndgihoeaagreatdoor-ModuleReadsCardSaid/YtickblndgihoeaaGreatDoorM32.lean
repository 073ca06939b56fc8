/- Layer 11: the plain law: what is laid is read, what is read is laid. -/
import Derived.Test.YtickblndgihoeaaGreatDoorM31
set_option linter.unusedSimpArgs false
namespace Go.Proofs.YtickblndgihoeaaGreatDoor
open Go Go.Sp
def InvR {α : Type} (o : α → OB) (rd : Rdr α) : Prop := ∀ bs pl x bs' pl',rd bs pl = .ok x bs' pl' → ∃ b,o x = some b ∧ bs = b ++ bs' ∧ pl' = pl + b.length
theorem xO {x y : OB} {b : List UInt8} : xM x y = some b ↔ ∃ a c,x = some a ∧ y = some c ∧ b = a ++ c := by
  cases x with
  | none => simp
  | some a => cases y with
    | none => simp
    | some c => simp [eq_comm]
theorem mustO_iff {p : Bool} {b : List UInt8} : wV p = some b ↔ p = true ∧ b = [] := by cases p <;> simp [wV,eq_comm]
theorem inv_num {most : Int} {bs bs' : List UInt8} {pl pl' : Int} {n : Nat} (h : uM most bs pl = .ok n bs' pl') : ∃ b,wK (n : Int) most = some b ∧ bs = b ++ bs' ∧ pl' = pl + b.length := by
  rcases numR_cases most bs pl with ⟨c,a,_,_,hr⟩ | ⟨k,hu,hk,hr⟩
  · rw [hr] at h;cases h
  · rw [hr] at h
    cases h
    have hi := uA_inv (bs := bs) (pl := pl) (by rw [hu])
    have hn : (uA bs pl).n = n := by rw [hu]
    rw [hn] at hi
    refine ⟨wY n,?_,hi.1,hi.2⟩
    rw [numO_in ⟨by omega,hk⟩,vJ,Int.toNat_natCast]
theorem flag_num (b : Bool) : flagO b = wK (if b then 1 else 0) 1 := by cases b <;> simp [flagO,wK,vJ,encU_lt]
theorem inv_flag : InvR flagO flagR := fun bs pl x bs' pl' h => by
  unfold flagR at h
  cases h1 : uM 1 bs pl with
  | bad c a => rw [h1] at h;cases h
  | ok n b1 p1 =>
    rw [h1,bind_ok] at h
    cases h
    have hle := numR_le h1
    obtain ⟨b,g1,g2,g3⟩ := inv_num h1
    refine ⟨b,?_,g2,g3⟩
    rw [flag_num,← g1]
    have : n = 0 ∨ n = 1 := by omega
    rcases this with rfl | rfl <;> rfl
theorem inv_edge : InvR xV wO := fun bs pl x bs' pl' h => by
  unfold wO at h
  cases h1 : uM 63 bs pl with
  | bad c a => rw [h1] at h;cases h
  | ok n b1 p1 =>
    rw [h1,bind_ok] at h
    cases h2 : uM 1000 b1 p1 with
    | bad c a => rw [h2] at h;cases h
    | ok k b2 p2 =>
      rw [h2] at h
      cases h
      obtain ⟨a,g1,g2,g3⟩ := inv_num h1
      obtain ⟨c,k1,k2,k3⟩ := inv_num h2
      refine ⟨a ++ c,xO.2 ⟨a,c,g1,k1,rfl⟩,by rw [g2,k2,List.append_assoc],by rw [k3,g3,List.length_append];omega⟩
def lenO (o : OB) : Int := ((o.getD []).length : Int)
def plcO {β : Type} (o : β → OB) : List β → Int → List Int
  | [],_ => []
  | x :: l,p => p :: plcO o l (p + lenO (o x))
theorem inv_many {α : Type} {o : α → OB} {rd : Rdr α} (hi : InvR o rd) : ∀ (n : Nat) (bs : List UInt8) (pl : Int) (z : List α × List Int) (bs' : List UInt8) (pl' : Int),vB rd n bs pl = .ok z bs' pl' → ∃ B,uY o z.1 = some B ∧ bs = B ++ bs' ∧ pl' = pl + B.length ∧ z.1.length = n ∧ z.2 = plcO o z.1 pl
  | 0,bs,pl,z,bs',pl',h => by cases h;exact ⟨[],rfl,rfl,by simp,rfl,rfl⟩
  | n + 1,bs,pl,z,bs',pl',h => by
    have h : (rd bs pl).bind (fun x bs1 pl1 => (vB rd n bs1 pl1).bind fun z bs2 pl2 => .ok (x :: z.1,pl :: z.2) bs2 pl2) = .ok z bs' pl' := h
    cases h1 : rd bs pl with
    | bad c a => rw [h1] at h;cases h
    | ok x bs1 pl1 =>
      rw [h1,bind_ok] at h
      cases h2 : vB rd n bs1 pl1 with
      | bad c a => rw [h2] at h;cases h
      | ok z1 bs3 pl3 =>
        rw [h2] at h
        cases h
        obtain ⟨a,g1,g2,g3⟩ := hi _ _ _ _ _ h1
        obtain ⟨B,k1,k2,k3,k4,k5⟩ := inv_many hi n _ _ _ _ _ h2
        refine ⟨a ++ B,xO.2 ⟨a,B,g1,k1,rfl⟩,by rw [g2,k2,List.append_assoc],by rw [k3,g3,List.length_append];omega,by simp [k4],?_⟩
        simp only [plcO,lenO,g1,Option.getD_some]
        rw [k5,g3]
theorem sev_inv {α : Type} {o : α → OB} {rd : Rdr α} (hi : InvR o rd) {least most : Int} {bs : List UInt8} {pl : Int} {z : List α × List Int} {bs' : List UInt8} {pl' : Int} (h : vR least most rd bs pl = .ok z bs' pl') :
    ∃ B,wH least most o z.1 = some B ∧ bs = B ++ bs' ∧ pl' = pl + B.length ∧ z.2 = plcO o z.1 (pl + lenO (wK z.1.length most)) := by
  unfold vR at h
  cases h1 : uM most bs pl with
  | bad c a => rw [h1] at h;cases h
  | ok n bs1 pl1 =>
    rw [h1,bind_ok] at h
    split at h
    · cases h
    · rename_i hle
      obtain ⟨a,g1,g2,g3⟩ := inv_num h1
      obtain ⟨B,k1,k2,k3,k4,k5⟩ := inv_many hi _ _ _ _ _ _ h
      refine ⟨a ++ B,?_,by rw [g2,k2,List.append_assoc],by rw [k3,g3,List.length_append];omega,?_⟩
      · rw [uR (by omega),k4,g1,k1];rfl
      · rw [k5,k4,g1,g3];rfl
theorem inv_node : InvR wJ uS := fun bs pl x bs' pl' h => by
  unfold uS at h
  cases h1 : uM 5 bs pl with
  | bad c a => rw [h1] at h;cases h
  | ok k b1 p1 =>
    rw [h1,bind_ok] at h
    have hk := numR_le h1
    obtain ⟨a1,g1,g2,g3⟩ := inv_num h1
    have h6 : k = 0 ∨ k = 1 ∨ k = 2 ∨ k = 3 ∨ k = 4 ∨ k = 5 := by omega
    rcases h6 with rfl | rfl | rfl | rfl | rfl | rfl
    · rw [if_pos rfl] at h
      cases h
      refine ⟨a1,?_,g2,g3⟩
      show xM (wK 0 5) (xM (wV true) (xM (wV true) (xM (wV true) (wV true)))) = _
      rw [show wK 0 5 = some a1 from g1]
      simp [wV]
    · rw [if_neg (by decide),if_neg (by decide),if_pos (by decide)] at h
      cases h2 : uM 1000 b1 p1 with
      | bad c a => rw [h2] at h;cases h
      | ok p b2 p2 =>
        rw [h2,bind_ok] at h
        cases h3 : flagR b2 p2 with
        | bad c a => rw [h3] at h;cases h
        | ok ch b3 p3 =>
          rw [h3,bind_ok] at h
          obtain ⟨a2,k1,k2,k3⟩ := inv_num h2
          obtain ⟨a3,l1,l2,l3⟩ := inv_flag _ _ _ _ _ h3
          cases ch with
          | false =>
            simp only [Bool.false_eq_true,if_false,bind_ok] at h
            cases h5 : wO b3 p3 with
            | bad c a => rw [h5] at h;cases h
            | ok e b5 p5 =>
              rw [h5] at h
              cases h
              obtain ⟨a5,n1,n2,n3⟩ := inv_edge _ _ _ _ _ h5
              refine ⟨a1 ++ (a2 ++ (a3 ++ a5)),?_,by rw [g2,k2,l2,n2];simp,by rw [n3,l3,k3,g3];simp;omega⟩
              show xM (wK 1 5) (xM (wV true) (xM (wK p 1000) (xM (flagO false) (xM (some []) (xV e))))) = _
              rw [show wK 1 5 = some a1 from g1,k1,l1,n1]
              simp [wV]
          | true =>
            simp only [if_true] at h
            cases h4 : wO b3 p3 with
            | bad c a => rw [h4] at h;cases h
            | ok pay b4 p4 =>
              rw [h4,bind_ok] at h
              cases h5 : wO b4 p4 with
              | bad c a => rw [h5] at h;cases h
              | ok e b5 p5 =>
                rw [h5] at h
                cases h
                obtain ⟨a4,m1,m2,m3⟩ := inv_edge _ _ _ _ _ h4
                obtain ⟨a5,n1,n2,n3⟩ := inv_edge _ _ _ _ _ h5
                refine ⟨a1 ++ (a2 ++ (a3 ++ (a4 ++ a5))),?_,by rw [g2,k2,l2,m2,n2];simp,by rw [n3,m3,l3,k3,g3];simp;omega⟩
                show xM (wK 1 5) (xM (wV true) (xM (wK p 1000) (xM (flagO true) (xM (xV pay) (xV e))))) = _
                rw [show wK 1 5 = some a1 from g1,k1,l1,m1,n1]
                simp [wV]
    · rw [if_neg (by decide),if_neg (by decide),if_pos (by decide)] at h
      cases h2 : uM 1000 b1 p1 with
      | bad c a => rw [h2] at h;cases h
      | ok p b2 p2 =>
        rw [h2,bind_ok] at h
        cases h3 : flagR b2 p2 with
        | bad c a => rw [h3] at h;cases h
        | ok ch b3 p3 =>
          rw [h3,bind_ok] at h
          obtain ⟨a2,k1,k2,k3⟩ := inv_num h2
          obtain ⟨a3,l1,l2,l3⟩ := inv_flag _ _ _ _ _ h3
          cases ch with
          | false =>
            simp only [Bool.false_eq_true,if_false,bind_ok] at h
            cases h5 : wO b3 p3 with
            | bad c a => rw [h5] at h;cases h
            | ok e b5 p5 =>
              rw [h5] at h
              cases h
              obtain ⟨a5,n1,n2,n3⟩ := inv_edge _ _ _ _ _ h5
              refine ⟨a1 ++ (a2 ++ (a3 ++ a5)),?_,by rw [g2,k2,l2,n2];simp,by rw [n3,l3,k3,g3];simp;omega⟩
              show xM (wK 2 5) (xM (wV true) (xM (wK p 1000) (xM (flagO false) (xM (some []) (xV e))))) = _
              rw [show wK 2 5 = some a1 from g1,k1,l1,n1]
              simp [wV]
          | true =>
            simp only [if_true] at h
            cases h4 : wO b3 p3 with
            | bad c a => rw [h4] at h;cases h
            | ok pay b4 p4 =>
              rw [h4,bind_ok] at h
              cases h5 : wO b4 p4 with
              | bad c a => rw [h5] at h;cases h
              | ok e b5 p5 =>
                rw [h5] at h
                cases h
                obtain ⟨a4,m1,m2,m3⟩ := inv_edge _ _ _ _ _ h4
                obtain ⟨a5,n1,n2,n3⟩ := inv_edge _ _ _ _ _ h5
                refine ⟨a1 ++ (a2 ++ (a3 ++ (a4 ++ a5))),?_,by rw [g2,k2,l2,m2,n2];simp,by rw [n3,m3,l3,k3,g3];simp;omega⟩
                show xM (wK 2 5) (xM (wV true) (xM (wK p 1000) (xM (flagO true) (xM (xV pay) (xV e))))) = _
                rw [show wK 2 5 = some a1 from g1,k1,l1,m1,n1]
                simp [wV]
    · rw [if_neg (by decide),if_pos (by decide)] at h
      cases h2 : uM 1000 b1 p1 with
      | bad c a => rw [h2] at h;cases h
      | ok p b2 p2 =>
        rw [h2,bind_ok] at h
        cases h3 : vR 1 8 wO b2 p2 with
        | bad c a => rw [h3] at h;cases h
        | ok z b3 p3 =>
          rw [h3] at h
          cases h
          obtain ⟨a2,k1,k2,k3⟩ := inv_num h2
          obtain ⟨a3,l1,l2,l3,_⟩ := sev_inv inv_edge h3
          refine ⟨a1 ++ (a2 ++ a3),?_,by rw [g2,k2,l2];simp,by rw [l3,k3,g3];simp;omega⟩
          show xM (wK 3 5) (xM (wV true) (xM (wK p 1000) (xM (wV true) (wH 1 8 xV z.1)))) = _
          rw [show wK 3 5 = some a1 from g1,k1,l1]
          simp [wV]
    · rw [if_neg (by decide),if_pos (by decide)] at h
      cases h2 : uM 1000 b1 p1 with
      | bad c a => rw [h2] at h;cases h
      | ok p b2 p2 =>
        rw [h2,bind_ok] at h
        cases h3 : vR 1 8 wO b2 p2 with
        | bad c a => rw [h3] at h;cases h
        | ok z b3 p3 =>
          rw [h3] at h
          cases h
          obtain ⟨a2,k1,k2,k3⟩ := inv_num h2
          obtain ⟨a3,l1,l2,l3,_⟩ := sev_inv inv_edge h3
          refine ⟨a1 ++ (a2 ++ a3),?_,by rw [g2,k2,l2];simp,by rw [l3,k3,g3];simp;omega⟩
          show xM (wK 4 5) (xM (wV true) (xM (wK p 1000) (xM (wV true) (wH 1 8 xV z.1)))) = _
          rw [show wK 4 5 = some a1 from g1,k1,l1]
          simp [wV]
    · rw [if_neg (by decide),if_neg (by decide),if_neg (by decide)] at h
      cases h5 : wO b1 p1 with
      | bad c a => rw [h5] at h;cases h
      | ok e b5 p5 =>
        rw [h5] at h
        cases h
        obtain ⟨a5,n1,n2,n3⟩ := inv_edge _ _ _ _ _ h5
        refine ⟨a1 ++ a5,?_,by rw [g2,n2];simp,by rw [n3,g3];simp;omega⟩
        show xM (wK 5 5) (xM (wV true) (xM (wV true) (xM (wV true) (xV e)))) = _
        rw [show wK 5 5 = some a1 from g1,n1]
        simp [wV]
theorem prmO_t (e : Int × Int) : prmO ⟨true,e⟩ = xM (flagO true) (xV e) := rfl
theorem prmO_f (e : Int × Int) : prmO ⟨false,e⟩ = xM (flagO false) (wV (e.1 == 0 && e.2 == 0)) := rfl
theorem inv_prm : InvR prmO prmR := fun bs pl x bs' pl' h => by
  unfold prmR at h
  cases h1 : flagR bs pl with
  | bad c a => rw [h1] at h;cases h
  | ok ch b1 p1 =>
    rw [h1,bind_ok] at h
    obtain ⟨a,g1,g2,g3⟩ := inv_flag _ _ _ _ _ h1
    cases ch with
    | false => rw [if_neg (by decide)] at h;cases h;exact ⟨a,by rw [prmO_f,g1];simp [wV],g2,g3⟩
    | true =>
      rw [if_pos rfl] at h
      cases h2 : wO b1 p1 with
      | bad c a => rw [h2] at h;cases h
      | ok e b2 p2 =>
        rw [h2] at h
        cases h
        obtain ⟨c,k1,k2,k3⟩ := inv_edge _ _ _ _ _ h2
        exact ⟨a ++ c,by rw [prmO_t,g1,k1];rfl,by rw [g2,k2,List.append_assoc],by rw [k3,g3,List.length_append];omega⟩
theorem arO_t (w e : Int) : arO ⟨true,w,e⟩ = xM (flagO true) (xM (wV (decide (w = 0))) (wK e 31)) := rfl
theorem arO_f (w e : Int) : arO ⟨false,w,e⟩ = xM (flagO false) (xM (wV (decide (e = 0))) (some (wY (foldZ w)))) := rfl
theorem inv_ar : InvR arO' arR := fun bs pl x bs' pl' h => by
  have hok := arR_ok h
  rw [arO_in hok]
  unfold arR at h
  cases h1 : flagR bs pl with
  | bad c a => rw [h1] at h;cases h
  | ok ch b1 p1 =>
    rw [h1,bind_ok] at h
    obtain ⟨a,g1,g2,g3⟩ := inv_flag _ _ _ _ _ h1
    cases ch with
    | false =>
      rw [if_neg (by decide)] at h
      rcases wholeR_cases b1 p1 with ⟨_,_,h2⟩ | ⟨hu,h2⟩
      · rw [h2] at h;cases h
      · rw [h2] at h
        cases h
        have hi := uA_inv (bs := b1) (pl := p1) (by rw [hu])
        refine ⟨a ++ wY (uA b1 p1).n,?_,by rw [g2,List.append_assoc,← hi.1],by rw [hi.2,g3,List.length_append];omega⟩
        rw [arO_f,g1,fold_unfold]
        simp [wV]
    | true =>
      rw [if_pos rfl] at h
      cases h2 : uM 31 b1 p1 with
      | bad c a => rw [h2] at h;cases h
      | ok n b2 p2 =>
        rw [h2] at h
        cases h
        obtain ⟨c,k1,k2,k3⟩ := inv_num h2
        refine ⟨a ++ c,by rw [arO_t,g1,k1];simp [wV],by rw [g2,k2,List.append_assoc],by rw [k3,g3,List.length_append];omega⟩
end Go.Proofs.YtickblndgihoeaaGreatDoor

/- Layer 11: the plain law of templates and modules. -/
namespace Go.Proofs.YtickblndgihoeaaGreatDoor
open Go Go.Sp
theorem inv_sta : InvR staO' staR := fun bs pl x bs' pl' h => by
  have hok := staR_ok h
  rw [staO_in hok]
  unfold staR at h
  cases h1 : uM 15 bs pl with
  | bad c a => rw [h1] at h;cases h
  | ok n b1 p1 =>
    rw [h1,bind_ok] at h
    cases h2 : vR 0 8 arR b1 p1 with
    | bad c a => rw [h2] at h;cases h
    | ok z b2 p2 =>
      rw [h2] at h
      cases h
      obtain ⟨a,g1,g2,g3⟩ := inv_num h1
      obtain ⟨c,k1,k2,k3,_⟩ := sev_inv inv_ar h2
      rw [listO_eq (o' := arO) (fun x hx => arO_in (hok x hx))] at k1
      exact ⟨a ++ c,by unfold staO;rw [g1,k1];rfl,by rw [g2,k2,List.append_assoc],by rw [k3,g3,List.length_append];omega⟩
theorem inv_insn : InvR insO' insnR := fun bs pl x bs' pl' h => by
  have hm := (insnR_more h).1
  by_cases h0 : pl < 0
  · rw [insnR_neg h0] at h;cases h
  have h0 : 0 ≤ pl := by omega
  by_cases hc : (uE bs pl).c = 0
  · rw [insnR_ok h0 hc] at h
    cases h
    obtain ⟨n,h24,hn,hf,ha,hb⟩ := read_inv hc
    refine ⟨tJ (zQ n) (uE bs pl).x,?_,hb,?_⟩
    · rw [insO_in ha,insO_ok hn (chk_ok hn h24 hf)]
    · have := congrArg List.length hb
      rw [List.length_append] at this
      omega
  · rw [insnR_bad h0 hc] at h;cases h
noncomputable def codeAt (t : Tem) (pl : Int) : Int := pl + lenO (wH 0 8 prmO t.params) + lenO (wK t.code.length 128)
noncomputable def erTP (t : Tem) (pl : Int) : Tem := ⟨t.params,no0,t.code.map erY,no0,plcO insO' t.code (codeAt t pl),no0⟩
theorem temO'_eq {t : Tem} (h : temOk t) : temO' t = xM (wH 0 8 prmO t.params) (wH 1 128 insO' t.code) := by
  rw [temO_in h]
  unfold temO
  rw [listO_eq (o' := insO') (fun x hx => (insO_in (h x hx)).symm)]
theorem temO'_ok {t : Tem} {b : List UInt8} (h : temO' t = some b) : temOk t := by
  by_cases ht : temOk t
  · exact ht
  · unfold temO' at h;rw [if_neg ht] at h;cases h
theorem insnR_okI {bs bs' : List UInt8} {pl pl' : Int} {y : YI} (h : insnR bs pl = .ok y bs' pl') : -9223372036854775808 ≤ y.1.a ∧ y.1.a ≤ 9223372036854775807 := by
  obtain ⟨b,h1,_⟩ := inv_insn _ _ _ _ _ h
  by_cases ha : -9223372036854775808 ≤ y.1.a ∧ y.1.a ≤ 9223372036854775807
  · exact ha
  · unfold insO' at h1;rw [if_neg ha] at h1;cases h1
theorem temR_ok {bs bs' : List UInt8} {pl pl' : Int} {t : Tem} (h : temR bs pl = .ok t bs' pl') : temOk t ∧ t.at_ = plcO insO' t.code (codeAt t pl) := by
  unfold temR at h
  cases h1 : vR 0 8 prmR bs pl with
  | bad c a => rw [h1] at h;cases h
  | ok z b1 p1 =>
    rw [h1,bind_ok] at h
    cases h2 : vR 1 128 insnR b1 p1 with
    | bad c a => rw [h2] at h;cases h
    | ok y b2 p2 =>
      rw [h2] at h
      cases h
      obtain ⟨B,k1,k2,k3,_⟩ := sev_inv inv_prm h1
      obtain ⟨C,l1,l2,l3,l4⟩ := sev_inv inv_insn h2
      refine ⟨fun x hx => ?_,?_⟩
      · obtain ⟨_,_,_,_,h3⟩ := sev_mem h2 x hx
        exact insnR_okI h3
      · rw [l4]
        simp only [codeAt,lenO,k1,Option.getD_some]
        rw [k3]
theorem inv_tem : InvR temO' temR := fun bs pl x bs' pl' h => by
  have hok := (temR_ok h).1
  rw [temO'_eq hok]
  unfold temR at h
  cases h1 : vR 0 8 prmR bs pl with
  | bad c a => rw [h1] at h;cases h
  | ok z b1 p1 =>
    rw [h1,bind_ok] at h
    cases h2 : vR 1 128 insnR b1 p1 with
    | bad c a => rw [h2] at h;cases h
    | ok y b2 p2 =>
      rw [h2] at h
      cases h
      obtain ⟨B,k1,k2,k3,_⟩ := sev_inv inv_prm h1
      obtain ⟨C,l1,l2,l3,_⟩ := sev_inv inv_insn h2
      exact ⟨B ++ C,by rw [k1,l1];rfl,by rw [k2,l2,List.append_assoc],by rw [l3,k3,List.length_append];omega⟩
theorem mapO_er {α : Type} {o : α → OB} {er : α → α} (h : ∀ x,o (er x) = o x) : ∀ l : List α,uY o (l.map er) = uY o l
  | [] => rfl
  | x :: l => by
    show xM (o (er x)) (uY o (l.map er)) = xM (o x) (uY o l)
    rw [h,mapO_er h l]
theorem listO_er {α : Type} {o : α → OB} {er : α → α} (h : ∀ x,o (er x) = o x) (least most : Int) (l : List α) : wH least most o (l.map er) = wH least most o l := by
  unfold wH
  rw [mapO_er h,List.length_map]
def okM (m : Mdl) : Prop := (∀ t ∈ m.temps,temOk t) ∧ ∀ s ∈ m.starts,∀ p ∈ s.args,arOk p
theorem sec2O_eq {m : Mdl} (h : okM m) : sec2O m = wH 0 16 temO' m.temps := by unfold sec2O;exact listO_eq fun x hx => (temO_in (h.1 x hx)).symm
theorem sec3O_eq {m : Mdl} (h : okM m) : sec3O m = xM (wH 0 16 xV m.chans) (wH 0 8 staO' m.starts) := by
  unfold sec3O
  rw [listO_eq (o' := staO') (fun x hx => (staO_in (h.2 x hx)).symm)]
theorem splE_lay {x y z : List UInt8} (hx : x.length ≤ 65536) (hy : y.length ≤ 65536) (hz : z.length ≤ 65536) : (tE (tB x y z)).1 = 0 ∧ ((s1A (tB x y z)).part = x ∧ (s1A (tB x y z)).at_ = 6 + (wY x.length).length) ∧ ((s2A (tB x y z)).part = y ∧ (s2A (tB x y z)).at_ = 6 + (vP 1 x).length + (wY y.length).length) ∧ ((s3A (tB x y z)).part = z ∧ (s3A (tB x y z)).at_ = 6 + (vP 1 x).length + (vP 2 y).length + (wY z.length).length) := by
  have h := spl_lay x y z [] hx hy hz
  rw [List.append_nil] at h
  have h2 := (spl_join x y z hx hy hz).1
  exact ⟨by rw [h2],⟨h.2.2.1,h.2.2.2.1⟩,⟨h.2.2.2.2.2.1,h.2.2.2.2.2.2.1⟩,⟨h.2.2.2.2.2.2.2.2.1,h.2.2.2.2.2.2.2.2.2.1⟩⟩
end Go.Proofs.YtickblndgihoeaaGreatDoor

/- Layer 11: the plain law: what is read is laid again just so. -/
namespace Go.Proofs.YtickblndgihoeaaGreatDoor
open Go Go.Sp
theorem endR_inv {bs bs' : List UInt8} {pl pl' : Int} {u : Unit} (h : endR bs pl = .ok u bs' pl') : bs = [] ∧ bs' = [] ∧ pl' = pl := by
  unfold endR at h
  split at h
  · rename_i h0
    cases h
    exact ⟨List.length_eq_zero_iff.1 h0,List.length_eq_zero_iff.1 h0,rfl⟩
  · cases h
theorem bind_inv {α β : Type} {r : RO α} {k : α → List UInt8 → Int → RO β} {y : β} {bs' : List UInt8} {pl' : Int} (h : r.bind k = .ok y bs' pl') : ∃ x bs pl,r = .ok x bs pl ∧ k x bs pl = .ok y bs' pl' := by
  cases r with
  | bad c a => cases h
  | ok x bs pl => exact ⟨x,bs,pl,rfl,h⟩
def placesM (m : Mdl) (i j k : Int) : Prop :=
  m.nat = plcO wJ m.nodes (i + lenO (wK m.nodes.length 64)) ∧ m.tat = plcO temO' m.temps (j + lenO (wK m.temps.length 16)) ∧ m.cat = plcO xV m.chans (k + lenO (wK m.chans.length 16)) ∧
  m.sat = plcO staO' m.starts (k + lenO (wH 0 16 xV m.chans) + lenO (wK m.starts.length 8))
theorem taken_inv {s : List UInt8} {m : Mdl} {bs : List UInt8} {pl : Int} (h : wZ s = .ok m bs pl) : ∃ x y z,s = tB x y z ∧ (x.length ≤ 65536 ∧ y.length ≤ 65536 ∧ z.length ≤ 65536) ∧ sec1O m = some x ∧ sec2O m = some y ∧ sec3O m = some z ∧ okM m ∧
    placesM m (6 + (wY x.length).length) (6 + (vP 1 x).length + (wY y.length).length) (6 + (vP 1 x).length + (vP 2 y).length + (wY z.length).length) ∧
    ∀ t ∈ m.temps,∃ p,t.at_ = plcO insO' t.code (codeAt t p) := by
  unfold wZ at h
  split at h
  · cases h
  · rename_i h0
    have h0 : (tE s).1 = 0 := by simpa using h0
    obtain ⟨x,y,z,_,_,_,_,rfl,hx,hy,hz⟩ := spl_inv h0
    obtain ⟨_,⟨e1,e2⟩,⟨e3,e4⟩,⟨e5,e6⟩⟩ := splE_lay hx hy hz
    rw [e1,e2,e3,e4,e5,e6] at h
    obtain ⟨z1,b1,p1,g1,f1⟩ := bind_inv h
    obtain ⟨_,_,_,g2,f2⟩ := bind_inv f1
    obtain ⟨z2,b2,p2,g3,f3⟩ := bind_inv f2
    obtain ⟨_,_,_,g4,f4⟩ := bind_inv f3
    obtain ⟨z3,b3,p3,g5,f5⟩ := bind_inv f4
    obtain ⟨z4,b4,p4,g6,f6⟩ := bind_inv f5
    obtain ⟨_,_,_,g7,f7⟩ := bind_inv f6
    obtain ⟨rfl,_,_⟩ := endR_inv g2
    obtain ⟨rfl,_,_⟩ := endR_inv g4
    obtain ⟨rfl,_,_⟩ := endR_inv g7
    cases f7
    obtain ⟨B1,i1,i2,i3,i4⟩ := sev_inv inv_node g1
    obtain ⟨B2,j1,j2,j3,j4⟩ := sev_inv inv_tem g3
    obtain ⟨B3,k1,k2,k3,k4⟩ := sev_inv inv_edge g5
    obtain ⟨B4,l1,l2,l3,l4⟩ := sev_inv inv_sta g6
    rw [List.append_nil] at i2 j2 l2
    subst i2 j2 l2
    have hok : okM ⟨z1.1,no0,z2.1,no0,z3.1,no0,z4.1,no0,z1.2,no0,z2.2,no0,z3.2,no0,z4.2,no0⟩ := ⟨fun t ht => by
      obtain ⟨_,_,_,_,h3⟩ := sev_mem g3 _ ht
      exact (temR_ok h3).1,fun s hs => by
      obtain ⟨_,_,_,_,h3⟩ := sev_mem g6 _ hs
      exact staR_ok h3⟩
    refine ⟨x,y,z,rfl,⟨hx,hy,hz⟩,?_,?_,?_,hok,⟨?_,?_,?_,?_⟩,fun t ht => ?_⟩
    · unfold sec1O;rw [i1]
    · rw [sec2O_eq hok,j1]
    · rw [sec3O_eq hok,k1,l1,k2];rfl
    · exact i4
    · exact j4
    · exact k4
    · dsimp only
      rw [l4,k3,k1]
      simp [lenO]
    · obtain ⟨_,p,_,_,h3⟩ := sev_mem g3 _ ht
      exact ⟨p,(temR_ok h3).2⟩
def insnD : Rdr YI := fun bs pl => if pl < 0 then .bad 1 0 else if (readD bs pl).c ≠ 0 then .bad (readD bs pl).c (readD bs pl).a else .ok ((readD bs pl).x,none,0) (readD bs pl).bs (readD bs pl).pl
theorem insn_D : insnR = insnD := by
  funext bs pl
  unfold insnR insnD
  rw [read_D]
def temD : Rdr Tem := fun bs pl => (vR 0 8 prmR bs pl).bind fun z bs pl => (vR 1 128 insnD bs pl).bind fun y bs pl => .ok ⟨z.1,no0,y.1,no0,y.2,no0⟩ bs pl
theorem tem_D : temR = temD := by
  funext bs pl
  unfold temR temD
  rw [insn_D]
def takenD (s : List UInt8) : RO Mdl := if (tE s).1 ≠ 0 then .bad (tE s).1 (tE s).2 else
  (vR 0 64 uS (s1A s).part (s1A s).at_).bind fun z1 b1 p1 => (endR b1 p1).bind fun _ _ _ => (vR 0 16 temD (s2A s).part (s2A s).at_).bind fun z2 b2 p2 => (endR b2 p2).bind fun _ _ _ => (vR 0 16 wO (s3A s).part (s3A s).at_).bind fun z3 b3 p3 => (vR 0 8 staR b3 p3).bind fun z4 b4 p4 => (endR b4 p4).bind fun _ b p =>
    .ok ⟨z1.1,no0,z2.1,no0,z3.1,no0,z4.1,no0,z1.2,no0,z2.2,no0,z3.2,no0,z4.2,no0⟩ b p
theorem taken_D (s : List UInt8) : wZ s = takenD s := by
  unfold wZ takenD
  rw [tem_D]
abbrev wantL : List UInt8 := [67,76,81,89,1,1,2,1,0,2,4,1,0,1,24,3,4,0,1,0,0]
theorem want_D : wZ wantL = .ok ⟨[⟨0,0,false,(0,0),[],no0⟩],no0,[⟨[],no0,[(⟨24,0,0,0,0,[]⟩,none,0)],no0,[14],no0⟩],no0,[],no0,[⟨0,[],no0⟩],no0,[8],no0,[12],no0,[],no0,[19],no0⟩ [] 21 := (taken_D _).trans (by rfl)
theorem mul_D : wZ [67,76,81,89,1,1,2,1,0,2,4,1,0,1,6,3,4,0,1,0,0] = .ok ⟨[⟨0,0,false,(0,0),[],no0⟩],no0,[⟨[],no0,[(⟨6,0,0,0,0,[]⟩,none,0)],no0,[14],no0⟩],no0,[],no0,[⟨0,[],no0⟩],no0,[8],no0,[12],no0,[],no0,[19],no0⟩ [] 21 := (taken_D _).trans (by rfl)
theorem bad1_D : wZ [67,76,81,89,1,1,2,1,0,2,4,1,0,1,25,3,4,0,1,0,0] = .bad 11 14 := (taken_D _).trans (by rfl)
theorem bad2_D : wZ [67,76,81,89,1,1,2,1,3,2,4,1,0,1,24,3,4,0,1,0,0] = .bad 3 9 := (taken_D _).trans (by rfl)
theorem zero_D : wZ [67,76,81,89,1,1,1,0,2,1,0,3,2,0,0] = .ok vH [] 15 := (taken_D _).trans (by rfl)
end Go.Proofs.YtickblndgihoeaaGreatDoor
