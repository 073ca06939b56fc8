/- Layer 11: reading instructions, templates, modules. -/
import Derived.Test.YtickblndgihoeaaGreatDoorM25
namespace Go.Proofs.YtickblndgihoeaaGreatDoor
open Go Go.Sp
abbrev insV (x : Ins) (p : Option Addr) (cap : Nat) : List Value := insC x (.slice p x.l.length cap)
noncomputable def insnR : Rdr YI := fun bs pl => if pl < 0 then .bad 1 0 else if (uE bs pl).c ≠ 0 then .bad (uE bs pl).c (uE bs pl).a else .ok ((uE bs pl).x,none,0) (uE bs pl).bs (uE bs pl).pl
def erY (y : YI) : YI := (y.1,none,0)
theorem insnR_bad {bs : List UInt8} {pl : Int} (h0 : 0 ≤ pl) (h : (uE bs pl).c ≠ 0) : insnR bs pl = .bad (uE bs pl).c (uE bs pl).a := by unfold insnR;rw [if_neg (by omega),if_pos h]
theorem insnR_ok {bs : List UInt8} {pl : Int} (h0 : 0 ≤ pl) (h : (uE bs pl).c = 0) : insnR bs pl = .ok ((uE bs pl).x,none,0) (uE bs pl).bs (uE bs pl).pl := by unfold insnR;rw [if_neg (by omega),if_neg (by simpa using h)]
theorem insnR_neg {bs : List UInt8} {pl : Int} (h0 : pl < 0) : insnR bs pl = .bad 1 0 := by unfold insnR;rw [if_pos h0]
theorem insnR_more {bs : List UInt8} {pl : Int} {x : YI} {bs' : List UInt8} {pl' : Int} (h : insnR bs pl = .ok x bs' pl') : pl' + bs'.length = pl + bs.length ∧ pl < pl' := by
  by_cases h0 : pl < 0
  · rw [insnR_neg h0] at h;cases h
  have h0 : 0 ≤ pl := by omega
  by_cases hc : (uE bs pl).c = 0
  · rw [insnR_ok h0 hc] at h
    cases h
    obtain ⟨r1,r2,r3⟩ := read_pl bs pl h0
    refine ⟨r1,r3 ?_⟩
    rintro rfl
    rw [read_nil] at hc
    exact absurd (show (3 : Int) = 0 from hc) (by decide)
  · rw [insnR_bad h0 hc] at h;cases h
theorem good_insn : GoodR insnR := fun _ _ _ _ _ h => ⟨(insnR_more h).1,by have := (insnR_more h).2;omega⟩
theorem up_insR (y : YI) : Up (uT y) := fun k k' hl h => ⟨h.1,up_vw _ _ _ _ k k' hl h.2⟩
theorem up_temR (t : Tem) : Up (wS t) := fun k k' hl h => ⟨up_vw _ _ _ _ k k' hl h.1,up_vw _ _ _ _ k k' hl h.2.1,up_all up_insR _ k k' hl h.2.2.1,up_vw _ _ _ _ k k' hl h.2.2.2⟩
attribute [local irreducible] callFunc Go.method J JL JO JR JR1 JRl Ct JG JM JM1 JW JW1 JQ JQ0 JS CtD xB RdB Er by8 Gl Emp uA smA ints yB vB vR wO uM flagR wholeR SevR uE uT
theorem wholeN_ok (x : Ins) (p : Option Addr) (cap : Nat) : Ct Tryz.prog 145 #[.agg (insV x p cap).toArray,.nilIface] [] (wF (.agg (insV x p cap).toArray) []) := by
  refine yE (vs := [.agg (insC x (.slice p x.l.length cap)).toArray,_]) Tryz.func145 rfl Tryz.ntmps145 (by simp) ?_
  repeat (first|(first|refine zB ?_|refine zE ?_|refine zG ?_|refine zP ?_|refine zJ rfl ?_|refine zV ?_)|(first|((first|refine zA rfl ?_);first|refine JOq (uJ rfl) rfl ?_|refine zO rfl rfl (by rfl) (by rfl) (ins_one rfl) rfl ?_|refine zD rfl rfl ?_|refine zU rfl (by rfl) rfl ?_|refine yN rfl rfl (fun r => ?_)|refine zS rfl (fun r => ?_))))
  exact ⟨rfl,_,wT rfl rfl rfl,_,Ent.nil,rfl,rfl⟩
theorem wholeN_bad (x : Ins) (p : Option Addr) (cap : Nat) (q : Nat) : Ct Tryz.prog 145 #[.agg (insV x p cap).toArray,xH q] [] (PanF q) := by
  refine yE (vs := [.agg (insC x (.slice p x.l.length cap)).toArray,_]) Tryz.func145 rfl Tryz.ntmps145 (by simp) ?_
  repeat (first|(first|refine zB ?_|refine zE ?_|refine zG ?_|refine zL rfl ?_)|(first|((first|refine zA rfl ?_);first|refine JOq (JQ_neIf1 rfl) rfl ?_|refine yG (cs := [xH q]) rfl rfl rfl ?_|refine JO_panic rfl ?_|refine zD rfl rfl ?_|refine yN rfl rfl (fun r => ?_)|refine zS rfl (fun r => ?_)|refine vD (by simp) rfl rfl ?_)))
  exact ⟨rfl,_,.nil,rfl,rfl⟩
abbrev rbx (r q : Nat) : HP := pt r (.cells #[ptr q] 159 (0,0))
theorem rtmi11_c (q r0 : Nat) (bs : List UInt8) (pl : Int) (hpl : 0 ≤ pl ∧ pl + bs.length ≤ 1000000) : Ct Tryz.prog 144 #[ptr r0] [RdB q bs pl,rbx r0 q] (RdE (insnR bs pl) q erY (fun y : YI => .agg (vC y).toArray) uT (rbx r0 q)) := by
  refine yE (vs := [_]) Tryz.func144 rfl Tryz.ntmps144 (by simp) ?_
  by_cases hc : (uE bs pl).c = 0
  · have ha := read_a hc
    obtain ⟨n,b1,b2,b3,b4,b5⟩ := read_inv hc
    have hlen := read_len bs pl
    have hok := insnR_ok hpl.1 hc
    have hR : uE bs pl = ⟨(uE bs pl).x,0,0,(uE bs pl).bs,(uE bs pl).pl⟩ := by
      have h : ∀ R : RdR,R.c = 0 → R.a = 0 → R = ⟨R.x,0,0,R.bs,R.pl⟩ := by
        rintro ⟨_,_,_,_,_⟩ rfl rfl
        rfl
      exact h _ hc ha
    have hrd := read_ok q bs pl hpl hR
    have hw := fun (p : Option Addr) (cap : Nat) => wholeN_ok (uE bs pl).x p cap
    generalize uE bs pl = R at *
    repeat (first|(first|refine zB ?_|refine zE ?_|refine zG ?_|refine zV ?_)|(first|((first|refine zA rfl ?_);first|refine yK rfl hrd rfl (fun y hy => ?_)|refine zN rfl (hw _ _) rfl ?_|refine zO rfl rfl (by rfl) (by rfl) (ins_one rfl) rfl ?_|refine zF rfl rfl ?_|refine zH rfl rfl ?_|refine zT rfl rfl rfl ?_|refine zS rfl (fun r => ?_))))
    refine tN (wT rfl rfl rfl) hok (R.x,y.1,y.2) rfl rfl ?_
    exact (Ent.sel (K := [Vw 1 (.slice y.1 R.x.l.length y.2) R.x.l.length (ints R.x.l),RdB q R.bs R.pl,rbx r0 q])).trans ((ent_turn (B := uT (R.x,y.1,y.2)) (fun k hk => by unfold uT;exact ⟨⟨hy,by simp only;omega,b4⟩,hk⟩)).trans Ent.sel)
  · have hE := read_err hc
    have hrd := read_bad q bs pl hpl hE hc
    have hw := fun (p : Option Addr) (cap qf : Nat) => wholeN_bad zeroI p cap qf
    repeat (first|(first|refine zB ?_|refine zE ?_|refine zG ?_)|(first|((first|refine zA rfl ?_);first|refine yK rfl hrd rfl (fun y hy => ?_)|refine zF rfl rfl ?_|refine zH rfl rfl ?_|refine zT rfl rfl rfl ?_|refine zS rfl (fun r => ?_))))
    refine zA rfl (JO_callPF rfl (hw y.2.1 y.2.2 y.1) rfl (vG (insnR_bad hpl.1 hc)))
noncomputable def temR : Rdr Tem := fun bs pl => (vR 0 8 prmR bs pl).bind fun z bs pl => (vR 1 128 insnR bs pl).bind fun y bs pl => .ok ⟨z.1,no0,y.1,no0,y.2,no0⟩ bs pl
theorem good_tem : GoodR temR := (good_sev good_prm).bind fun _ => (good_sev good_insn).bind fun _ => GoodR.pure
def erT (t : Tem) : Tem := ⟨t.params,no0,t.code.map erY,no0,t.at_,no0⟩
theorem rtem11_c (q : Nat) (bs : List UInt8) (pl : Int) (hpl : 0 ≤ pl ∧ pl + bs.length ≤ 1000000) : Ct Tryz.prog 91 #[rdg q] [RdB q bs pl,Emp] (RdE (temR bs pl) q erT (fun t : Tem => .agg (wA t).toArray) wS Emp) := by
  have c1 := severalParam_c tI id NoR prmR (f := 142) [rdg q] [] Emp (fun _ => rfl) prm_one up_noR good_prm q (fun b p h => rprm11_c q b p h) 0 8 (by decide) bs pl hpl
  refine yE (vs := [_]) Tryz.func91 rfl Tryz.ntmps91 (by simp) ?_
  repeat (first|(first|refine zB ?_|refine zE ?_|refine zG ?_)|(first|((first|refine zA rfl ?_);first|refine zU rfl (by rfl) rfl ?_|refine yN rfl rfl (fun r => ?_)|refine zS rfl (fun r => ?_)|refine wP rfl rfl rfl ?_)))
  rename_i r1
  revert r
  intro r2
  refine zA rfl (wR rfl c1 rfl (fun x1 bs1 pl1 y1 g1 hy1 => ?_) (fun c a qf g1 => vG (c := c) (a := a) (by simp [temR,g1])))
  have p1 := good_sev good_prm _ _ _ _ _ g1
  obtain ⟨ps,a1,at1,a2⟩ := y1
  have c2 := severalInsn_c vC erY uT insnR (f := 144) [] [ptr r1] (rbx r1 q) (fun _ => rfl) ins_one' up_insR good_insn q (fun b p h => rtmi11_c q r1 b p h) 1 128 (by decide) bs1 pl1 (by omega)
  repeat (first|(first|refine zB ?_|refine zE ?_|refine zG ?_)|(first|((first|refine zA rfl ?_);first|refine zD rfl rfl ?_|refine zF rfl rfl ?_|refine zU rfl (by rfl) rfl ?_|refine zT rfl rfl rfl ?_|refine wP rfl rfl rfl ?_|refine zW rfl rfl (by first | rfl | assumption) rfl ?_)))
  refine zA rfl (wR rfl c2 rfl (fun x2 bs2 pl2 y2 g2 hy2 => ?_) (fun c a qf g2 => vG (c := c) (a := a) (by simp [temR,g1,g2])))
  obtain ⟨ys,a3,at2,a4⟩ := y2
  repeat (first|(first|refine zB ?_|refine zE ?_|refine zG ?_|refine zV ?_)|(first|((first|refine zA rfl ?_);first|refine zO rfl rfl (by rfl) (by rfl) (by simp [Value.oneCell']) rfl ?_|refine zD rfl rfl ?_|refine zF rfl rfl ?_|refine zU rfl (by rfl) rfl ?_|refine zT rfl rfl rfl ?_|refine zW rfl rfl (by first | rfl | assumption) rfl ?_)))
  refine tN (wT rfl rfl rfl) (show temR bs pl = .ok ⟨ps,no0,ys.map erY,no0,at2,no0⟩ bs2 pl2 by simp [temR,g1,g2];rw [← hy1,← hy2];simp [sevE]) ⟨ps,a1,ys,a3,at2,a4⟩ rfl rfl ?_
  refine (Ent.sel (K := [SevR 3 tI NoR ⟨ps,a1,at1,a2⟩,SevR 6 vC uT ⟨ys,a3,at2,a4⟩,RdB q bs2 pl2])).trans ((sevR_rows (fun _ => pers_emp)).trans ((Ent.sel (K := [SevR 6 vC uT ⟨ys,a3,at2,a4⟩,Vw 3 (slc a1 ps.length) ps.length (ps.flatMap tI),RdB q bs2 pl2])).trans ((sevR_rows pers_insR).trans ?_)))
  exact (Ent.sel (K := [Vw 3 (slc a1 ps.length) ps.length (ps.flatMap tI),Vw 6 (slc a3 ys.length) ys.length (ys.flatMap vC),yB uT ys,Vw 1 (slc a4 at2.length) at2.length (ints at2),RdB q bs2 pl2])).trans ((ent_conj (A := wS ⟨ps,a1,ys,a3,at2,a4⟩) (M := [Vw 3 (slc a1 ps.length) ps.length (ps.flatMap tI),Vw 6 (slc a3 ys.length) ys.length (ys.flatMap vC),yB uT ys,Vw 1 (slc a4 at2.length) at2.length (ints at2)]) (fun B hB => by
    simp only [List.mem_cons,List.not_mem_nil,or_false] at hB
    rcases hB with rfl | rfl | rfl | rfl
    · exact up_vw _ _ _ _
    · exact up_vw _ _ _ _
    · exact up_all up_insR _
    · exact up_vw _ _ _ _) (fun k hk => ⟨hk _ (by simp),hk _ (by simp),hk _ (by simp),hk _ (by simp)⟩)).trans (emp_in.trans Ent.sel))
end Go.Proofs.YtickblndgihoeaaGreatDoor
