/- Layer 11: the document's Put; ModulePuts' walk. -/
import Derived.Test.YtickblndgihoeaaGreatDoorM47
import Derived.Test.YtickblndgihoeaaGreatDoorM38
set_option linter.unusedSimpArgs false
namespace Go.Proofs.YtickblndgihoeaaGreatDoor
open Go Go.Sp
theorem mapO_nodes {l : List Nod} {i : Nat} {r : List UInt8} (h : uY wJ (l.take i) = some r) (hl : l.length ≤ 100000) (ha : ∀ x ∈ l,x.next.length ≤ 100000) : r.length ≤ 1000000000000 := by
  have h1 := mapO_lenB (b := 2000100) h fun y hy c hc => by
    have := nodeO_len hc
    have h2 := uL (f := fun _ : Int × Int => 20) (b := 20) (l := y.next) (fun _ _ => Nat.le_refl _)
    have := ha y (List.mem_of_mem_take hy)
    unfold costN at *
    omega
  have h3 : (l.take i).length * 2000100 ≤ 100000 * 2000100 := Nat.mul_le_mul (by rw [List.length_take];omega) (Nat.le_refl _)
  omega
theorem mapO_temps {l : List Tem} {i : Nat} {r : List UInt8} (h : uY temO (l.take i) = some r) (hl : l.length ≤ 100000) (hok : ∀ x ∈ l,temOk x) (ha : ∀ x ∈ l,x.params.length ≤ 100000 ∧ x.code.length ≤ 100000) : r.length ≤ 100000000000000 := by
  have h1 := mapO_lenB (b := 13700020) h fun y hy c hc => by
    have := LeO.tem (hok y (List.mem_of_mem_take hy)) c hc
    have := ha y (List.mem_of_mem_take hy)
    omega
  have h3 : (l.take i).length * 13700020 ≤ 100000 * 13700020 := Nat.mul_le_mul (by rw [List.length_take];omega) (Nat.le_refl _)
  omega
theorem mapO_starts {l : List Sta} {i : Nat} {r : List UInt8} (h : uY staO (l.take i) = some r) (hl : l.length ≤ 100000) (hok : ∀ x ∈ l,∀ p ∈ x.args,arOk p) (ha : ∀ x ∈ l,x.args.length ≤ 100000) : r.length ≤ 1000000000000 := by
  have h1 := mapO_lenB (b := 3000030) h fun y hy c hc => by
    have := staO_len (hok y (List.mem_of_mem_take hy)) c hc
    have h2 := uL (f := fun _ : Ar => 30) (b := 30) (l := y.args) (fun _ _ => Nat.le_refl _)
    have := ha y (List.mem_of_mem_take hy)
    unfold costS at *
    omega
  have h3 : (l.take i).length * 3000030 ≤ 100000 * 3000030 := Nat.mul_le_mul (by rw [List.length_take];omega) (Nat.le_refl _)
  omega
attribute [local irreducible] callFunc Go.method J JL JO JR JR1 JRl Ct JG JM JM1 JW JW1 JQ JQ0 JS CtD xB ints by8 chkA tJ yB uK RawR wZ temO wJ staO sec1O sec2O sec3O wK xV oneO wH prmO insO arO mayB vJ joinA tB
theorem dput_bad (m : Mdl) (hB : BndM m) (h : mayB m = false) : Ct Tryz.prog 10 #[.agg (vN m).toArray] [uK m] (wF (.tuple #[str [],.int .i64 2]) []) := by
  have c := dmay_c m hB
  rw [h] at c
  refine yE (vs := [_]) Tryz.func10 rfl Tryz.ntmps10 (by simp) ?_
  repeat (first|(first|refine zB ?_|refine zE ?_|refine zG ?_|refine zL rfl ?_|refine zV ?_)|(first|((first|refine zA rfl ?_);first|refine zC rfl rfl ?_|refine zU rfl (by rfl) rfl ?_|refine xD rfl rfl ?_|refine yN rfl rfl (fun r => ?_)|refine zR rfl (c) rfl ?_)))
  exact ret_twoV rfl rfl rfl .nil
set_option maxRecDepth 8000 in
set_option synthInstance.maxHeartbeats 400000 in
set_option synthInstance.maxSize 2000 in
set_option maxHeartbeats 8000000 in
theorem dput_ok (m : Mdl) (hB : BndM m) (hok : okM m) {x y z : List UInt8} (s1 : sec1O m = some x) (s2 : sec2O m = some y) (s3 : sec3O m = some z) (hl : x.length ≤ 65536 ∧ y.length ≤ 65536 ∧ z.length ≤ 65536) :
    Ct Tryz.prog 10 #[.agg (vN m).toArray] [uK m] (wF (.tuple #[str (tB x y z),.int .i64 0]) []) := by
  have cmay := dmay_c m hB
  rw [show mayB m = true by unfold mayB;rw [s1,s2,s3];rfl] at cmay
  have cj := djoin_c x y z (by omega) (by omega) (by omega)
  have ej : joinA x y z = (tB x y z,0) := by unfold joinA;rw [if_pos hl]
  rw [ej] at cj
  obtain ⟨_,_,a1,r1,g1,m1,rfl⟩ := uW (show wH 0 64 wJ m.nodes = some x by unfold sec1O at s1;exact s1)
  obtain ⟨_,_,a2,r2,g2,m2,rfl⟩ := uW (show wH 0 16 temO m.temps = some y by unfold sec2O at s2;exact s2)
  obtain ⟨zc,zs,hc,hs,rfl⟩ := xO.1 (show xM (wH 0 16 xV m.chans) (wH 0 8 staO m.starts) = some z by unfold sec3O at s3;exact s3)
  obtain ⟨_,_,a3,r3,g3,m3,rfl⟩ := uW hc
  obtain ⟨_,_,a4,r4,g4,m4,rfl⟩ := uW hs
  obtain ⟨_,_,rfl⟩ := numO_eq g1
  obtain ⟨_,_,rfl⟩ := numO_eq g2
  obtain ⟨_,_,rfl⟩ := numO_eq g3
  obtain ⟨_,_,rfl⟩ := numO_eq g4
  have d1 := dnum_c (m.nodes.length : Int) (by omega)
  have d2 := dnum_c (m.temps.length : Int) (by omega)
  have d3 := dnum_c (m.chans.length : Int) (by omega)
  have d4 := dnum_c (m.starts.length : Int) (by omega)
  have f1 := uD (n := (m.nodes.length : Int)) (by omega)
  have f2 := uD (n := (m.temps.length : Int)) (by omega)
  have f3 := uD (n := (m.chans.length : Int)) (by omega)
  have f4 := uD (n := (m.starts.length : Int)) (by omega)
  obtain ⟨ok1,ok2⟩ := hok
  obtain ⟨b1,b2,b3,b4⟩ := hB
  clear s1 s2 s3 hc hs g1 g2 g3 g4 ej
  obtain ⟨ns,⟨p1,k1⟩,ts,⟨p2,k2⟩,cs,⟨p3,k3⟩,ss,⟨p4,k4⟩,u1,u1a,u2,u2a,u3,u3a,u4,u4a⟩ := m
  dsimp only at *
  generalize he1 : vJ (ns.length : Int) = e1 at *
  generalize he2 : vJ (ts.length : Int) = e2 at *
  generalize he3 : vJ (cs.length : Int) = e3 at *
  generalize he4 : vJ (ss.length : Int) = e4 at *
  generalize hde : (e3 ++ r3) ++ e4 = e5
  have e5l : e5.length ≤ 70000 := by rw [← hde];simp only [List.length_append] at *;omega
  rw [show e3 ++ r3 ++ (e4 ++ r4) = e5 ++ r4 by rw [← hde];simp] at cj ⊢
  refine yE (vs := [.agg [slc (p1,k1) ns.length,slc (p2,k2) ts.length,slc (p3,k3) cs.length,slc (p4,k4) ss.length,slc u1a u1.length,slc u2a u2.length,slc u3a u3.length,slc u4a u4.length].toArray]) Tryz.func10 rfl Tryz.ntmps10 (by simp) ?_
  repeat (first|(first|refine zB ?_|refine zE ?_|refine zG ?_)|(first|((first|refine zA rfl ?_);first|refine zC rfl rfl ?_|refine zU rfl (by rfl) rfl ?_|refine yN rfl rfl (fun r => ?_))))
  revert r
  intro n1
  refine JL_heap (Ent.dup (uK ⟨ns,(p1,k1),ts,(p2,k2),cs,(p3,k3),ss,(p4,k4),u1,u1a,u2,u2a,u3,u3a,u4,u4a⟩)) ?_
  refine zA rfl (zN rfl cmay rfl ?_)
  refine JL_heap ((Ent.sel (K := [uK ⟨ns,(p1,k1),ts,(p2,k2),cs,(p3,k3),ss,(p4,k4),u1,u1a,u2,u2a,u3,u3a,u4,u4a⟩,pt n1 (.cells [slc (p1,k1) ns.length,slc (p2,k2) ts.length,slc (p3,k3) cs.length,slc (p4,k4) ss.length,slc u1a u1.length,slc u2a u2.length,slc u3a u3.length,slc u4a u4.length].toArray 28 (0,0))])).trans (modR7 _)) ?_
  repeat (first|(first|refine zB ?_|refine zE ?_|refine zG ?_|refine zP ?_|refine zJ rfl ?_)|(first|((first|refine zA rfl ?_);first|refine yF rfl rfl ?_|refine zF rfl rfl ?_|refine zH rfl rfl ?_|refine xD rfl rfl ?_|refine zS rfl (fun r => ?_))))
  revert r
  intro n4
  repeat (first|(first|refine zB ?_|refine zE ?_|refine zG ?_)|(first|((first|refine zA rfl ?_);first|refine JOq (yR 0 (j := 0) rfl rfl (by omega) rfl) rfl ?_|refine zC rfl rfl ?_|refine zW rfl rfl (by first | rfl | assumption) rfl ?_|refine zR rfl (d1) rfl ?_)))
  refine uI (α := Unit) (fun _ => [(1,ptr n1),(4,ptr n4)]) (fun _ => [pt n4 (.cells #[str (e1 ++ r1),str [],str []] 41 (0,0)),pt n1 (.cells [slc (p1,k1) ns.length,slc (p2,k2) ts.length,slc (p3,k3) cs.length,slc (p4,k4) ss.length,slc u1a u1.length,slc u2a u2.length,slc u3a u3.length,slc u4a u4.length].toArray 28 (0,0)),Vw 6 (slc (p1,k1) ns.length) ns.length (ns.flatMap xR),yB wG ns,Vw 3 (slc (p2,k2) ts.length) ts.length (ts.flatMap wA),yB wS ts,Vw 2 (slc (p3,k3) cs.length) cs.length (cs.flatMap yI),Vw 2 (slc (p4,k4) ss.length) ss.length (ss.flatMap vE),yB StaQ ss]) ?_ ?_
  · repeat (first|(first|refine zK ?_)|(first|((first|refine zA rfl ?_);first|refine zD rfl rfl ?_)))
    refine xU (β := { z : Nat × List UInt8 // z.1 ≤ ns.length ∧ uY wJ (ns.take z.1) = some z.2 }) (fun z => [(1,ptr n1),(4,ptr n4),(5,.int .i64 (z.1.1 : Int))]) (fun _ => []) (fun z => [pt n4 (.cells #[str (e1 ++ z.1.2),str [],str []] 41 (0,0)),pt n1 (.cells [slc (p1,k1) ns.length,slc (p2,k2) ts.length,slc (p3,k3) cs.length,slc (p4,k4) ss.length,slc u1a u1.length,slc u2a u2.length,slc u3a u3.length,slc u4a u4.length].toArray 28 (0,0)),Vw 6 (slc (p1,k1) ns.length) ns.length (ns.flatMap xR),yB wG ns,Vw 3 (slc (p2,k2) ts.length) ts.length (ts.flatMap wA),yB wS ts,Vw 2 (slc (p3,k3) cs.length) cs.length (cs.flatMap yI),Vw 2 (slc (p4,k4) ss.length) ss.length (ss.flatMap vE),yB StaQ ss]) (fun z => ns.length - z.1.1) ⟨(0,[]),by simp,rfl⟩ ?_ rfl ?_ ?_
    · (repeat (first|exact zM _|refine zI rfl ?_))
    · dsimp only
      rw [List.append_nil]
      exact Ent.sel
    rintro ⟨⟨i,r⟩,hi,hr⟩
    dsimp only at hi hr ⊢
    by_cases hil : i < ns.length
    · obtain ⟨x,hx⟩ : ∃ x,ns[i]? = some x := ⟨_,List.getElem?_eq_getElem hil⟩
      have hxm := List.mem_of_getElem? hx
      obtain ⟨c,hc⟩ := mapO_mem m1 x hxm
      have d := dlayNode_c hc (b1.2 x hxm)
      have hrl := mapO_nodes hr b1.1 b1.2
      have hcl := nodeO_len hc
      have hcc := uL (f := fun _ : Int × Int => 20) (b := 20) (l := x.next) (fun _ _ => Nat.le_refl _)
      have hcn := b1.2 x hxm
      unfold costN at hcl
      refine wE (φ := ∃ b o,p1 = some ⟨b,o,none⟩) (fun F w hs => (Ent.sel (K := [Vw 6 (slc (p1,k1) ns.length) ns.length (ns.flatMap xR)]) F w hs).tail.out (fun k hk => xW (by omega) k hk)) (fun hp => ?_)
      obtain ⟨q1,o1,rfl⟩ := hp
      refine J_all wG ns x pers_nodR hxm ?_
      repeat (first|(first|refine zB ?_|refine zE ?_|refine zG ?_|refine zK ?_|refine zP ?_|refine zL rfl ?_)|(first|((first|refine zA rfl ?_);first|refine JOq (yH rfl rfl (by omega)) rfl ?_|refine zD rfl rfl ?_|refine yF rfl rfl ?_|refine zF rfl rfl ?_|refine zH rfl rfl ?_)))
      refine uI (α := Unit) (fun _ => [(1,ptr n1),(4,ptr n4),(5,.int .i64 (i : Int))]) (fun _ => [pt n4 (.cells #[str (e1 ++ (r ++ c)),str [],str []] 41 (0,0)),pt n1 (.cells [slc (some ⟨q1,o1,none⟩,k1) ns.length,slc (p2,k2) ts.length,slc (p3,k3) cs.length,slc (p4,k4) ss.length,slc u1a u1.length,slc u2a u2.length,slc u3a u3.length,slc u4a u4.length].toArray 28 (0,0)),Vw 6 (slc (some ⟨q1,o1,none⟩,k1) ns.length) ns.length (ns.flatMap xR),yB wG ns,Vw 3 (slc (p2,k2) ts.length) ts.length (ts.flatMap wA),yB wS ts,Vw 2 (slc (p3,k3) cs.length) cs.length (cs.flatMap yI),Vw 2 (slc (p4,k4) ss.length) ss.length (ss.flatMap vE),yB StaQ ss]) ?_ ?_
      · refine J_calm ?_
        refine tM 10 [pt n4 (.cells #[str (e1 ++ r),str [],str []] 41 (0,0)),pt n1 (.cells [slc (some ⟨q1,o1,none⟩,k1) ns.length,slc (p2,k2) ts.length,slc (p3,k3) cs.length,slc (p4,k4) ss.length,slc u1a u1.length,slc u2a u2.length,slc u3a u3.length,slc u4a u4.length].toArray 28 (0,0)),Vw 6 (slc (some ⟨q1,o1,none⟩,k1) ns.length) ns.length (ns.flatMap xR),yB wG ns,Vw 3 (slc (p2,k2) ts.length) ts.length (ts.flatMap wA),yB wS ts,Vw 2 (slc (p3,k3) cs.length) cs.length (cs.flatMap yI),Vw 2 (slc (p4,k4) ss.length) ss.length (ss.flatMap vE),yB StaQ ss] Ent.sel ?_
        (refine yO 0 rfl rfl (by kernel_rfl) (by kernel_rfl) (by kernel_rfl) rfl rfl rfl rfl Ent.sel (by first|exact yR 0 (j := 0) rfl rfl (by omega) rfl) ?_;refine yO 1 rfl rfl (by kernel_rfl) (by kernel_rfl) (by kernel_rfl) rfl rfl rfl rfl Ent.sel (by first|exact tC rfl (wB rfl)) ?_;refine yO 2 rfl rfl (by kernel_rfl) (by kernel_rfl) (by kernel_rfl) rfl rfl rfl rfl Ent.sel (by first|exact xP rfl) ?_;refine yO 3 rfl rfl (by kernel_rfl) (by kernel_rfl) (by kernel_rfl) rfl rfl rfl rfl Ent.sel (by first|exact tC rfl (wB rfl)) ?_;refine yO 4 rfl rfl (by kernel_rfl) (by kernel_rfl) (by kernel_rfl) rfl rfl rfl rfl Ent.sel (by first|exact xE rfl) ?_;refine yO 5 rfl rfl (by kernel_rfl) (by kernel_rfl) (by kernel_rfl) rfl rfl rfl rfl Ent.sel (by first|exact JQ_index rfl rfl hil) ?_;refine yO 6 rfl rfl (by kernel_rfl) (by kernel_rfl) (by kernel_rfl) rfl rfl rfl rfl Ent.sel (by first|exact xF (xR x) rfl (fun u z hu => xG (b := q1) (o := o1) (n := ns.length) (cap := k1) (j := i) hil (by rw [yY nodC_len _ _ _ _ (by have := (List.getElem?_eq_some_iff.1 hu).1;exact this) hx];exact hu)) rfl) ?_)
        repeat' (first|refine JM_fin rfl ?_|refine wW rfl ?_|refine xT rfl rfl (by first|exact xN|exact zX xC|exact zX (fun _ _ _ _ h => .inr (yD _ _ _ _ h))) (zN rfl d rfl ⟨by first|exact (fun _ => Ent.sel),?_⟩)|refine xT rfl rfl (by first|exact zX xC|exact zX (fun _ _ _ _ h => .inr (yD _ _ _ _ h))) (JOq (tD (List.append_assoc e1 r c) rfl rfl (by (try simp only [List.length_append]);omega)) rfl ⟨by first|exact (fun h => absurd h (by decide))|exact (fun _ => Ent.sel),?_⟩)|refine xT rfl rfl (by first|exact zX xC|exact zX (fun _ _ _ _ h => .inr (yD _ _ _ _ h))) (JOq (yR 0 (j := 0) rfl rfl (by omega) rfl) rfl ⟨by first|exact (fun _ => Ent.sel),?_⟩)|refine xT rfl rfl (by first|exact zX xC) (zW rfl rfl (by first | rfl | assumption) rfl ⟨by first|exact (fun h => absurd h (by decide))|exact (fun _ => Ent.nil),?_⟩))
        all_goals exact ⟨(),by (repeat (first|exact zM _|refine zI rfl ?_)),rfl,Ent.sel⟩
      rintro ⟨⟩
      dsimp only [inB,thn]
      repeat (first|(first|refine zB ?_|refine zE ?_)|(first|((first|refine zA rfl ?_);first|refine yZ (b := 1) rfl rfl (by omega) rfl ?_|refine zD rfl rfl ?_|refine zC rfl rfl ?_)))
      exact ⟨⟨(i + 1,r ++ c),by simp only;omega,mapO_take hx hr hc⟩,by simp only;omega,by (repeat (first|exact zM _|refine zI rfl ?_)),rfl,Ent.sel⟩
    · obtain rfl : i = ns.length := by omega
      rw [List.take_length] at hr
      obtain rfl := Option.some.inj (hr.symm.trans m1)
      repeat (first|(first|refine zB ?_|refine zE ?_|refine zG ?_|refine zJ rfl ?_|refine xA ?_)|(first|((first|refine zA rfl ?_);first|refine JOq (yS rfl rfl (by omega)) rfl ?_|refine zD rfl rfl ?_|refine yF rfl rfl ?_|refine zF rfl rfl ?_|refine zH rfl rfl ?_)))
      exact ⟨(),by (repeat (first|exact zM _|refine zI rfl ?_)),rfl,Ent.sel⟩
  rintro ⟨⟩
  dsimp only [thn]
  repeat (first|(first|refine zB ?_|refine zE ?_|refine zG ?_)|(first|((first|refine zA rfl ?_);first|refine JOq (yR 1 (j := 1) rfl rfl (by omega) rfl) rfl ?_|refine zC rfl rfl ?_|refine yF rfl rfl ?_|refine zF rfl rfl ?_|refine zH rfl rfl ?_|refine zW rfl rfl (by first | rfl | assumption) rfl ?_|refine zR rfl (d2) rfl ?_)))
  refine uI (α := Unit) (fun _ => [(1,ptr n1),(4,ptr n4)]) (fun _ => [pt n4 (.cells #[str (e1 ++ r1),str (e2 ++ r2),str []] 41 (0,0)),pt n1 (.cells [slc (p1,k1) ns.length,slc (p2,k2) ts.length,slc (p3,k3) cs.length,slc (p4,k4) ss.length,slc u1a u1.length,slc u2a u2.length,slc u3a u3.length,slc u4a u4.length].toArray 28 (0,0)),Vw 6 (slc (p1,k1) ns.length) ns.length (ns.flatMap xR),yB wG ns,Vw 3 (slc (p2,k2) ts.length) ts.length (ts.flatMap wA),yB wS ts,Vw 2 (slc (p3,k3) cs.length) cs.length (cs.flatMap yI),Vw 2 (slc (p4,k4) ss.length) ss.length (ss.flatMap vE),yB StaQ ss]) ?_ ?_
  · repeat (first|(first|refine zK ?_)|(first|((first|refine zA rfl ?_);first|refine zD rfl rfl ?_)))
    refine xU (β := { z : Nat × List UInt8 // z.1 ≤ ts.length ∧ uY temO (ts.take z.1) = some z.2 }) (fun z => [(1,ptr n1),(4,ptr n4),(6,.int .i64 (z.1.1 : Int))]) (fun _ => []) (fun z => [pt n4 (.cells #[str (e1 ++ r1),str (e2 ++ z.1.2),str []] 41 (0,0)),pt n1 (.cells [slc (p1,k1) ns.length,slc (p2,k2) ts.length,slc (p3,k3) cs.length,slc (p4,k4) ss.length,slc u1a u1.length,slc u2a u2.length,slc u3a u3.length,slc u4a u4.length].toArray 28 (0,0)),Vw 6 (slc (p1,k1) ns.length) ns.length (ns.flatMap xR),yB wG ns,Vw 3 (slc (p2,k2) ts.length) ts.length (ts.flatMap wA),yB wS ts,Vw 2 (slc (p3,k3) cs.length) cs.length (cs.flatMap yI),Vw 2 (slc (p4,k4) ss.length) ss.length (ss.flatMap vE),yB StaQ ss]) (fun z => ts.length - z.1.1) ⟨(0,[]),by simp,rfl⟩ ?_ rfl ?_ ?_
    · (repeat (first|exact zM _|refine zI rfl ?_))
    · dsimp only
      rw [List.append_nil]
      exact Ent.sel
    rintro ⟨⟨i,r⟩,hi,hr⟩
    dsimp only at hi hr ⊢
    by_cases hil : i < ts.length
    · obtain ⟨x,hx⟩ : ∃ x,ts[i]? = some x := ⟨_,List.getElem?_eq_getElem hil⟩
      have hxm := List.mem_of_getElem? hx
      obtain ⟨c,hc⟩ := mapO_mem m2 x hxm
      have d := dlayTemplate_c hc (b2.2 x hxm).1 (b2.2 x hxm).2 (ok1 x hxm)
      have hrl := mapO_temps hr b2.1 ok1 b2.2
      have hcl := LeO.tem (ok1 x hxm) c hc
      have hcn := b2.2 x hxm
      refine wE (φ := ∃ b o,p2 = some ⟨b,o,none⟩) (fun F w hs => (Ent.sel (K := [Vw 3 (slc (p2,k2) ts.length) ts.length (ts.flatMap wA)]) F w hs).tail.out (fun k hk => xW (by omega) k hk)) (fun hp => ?_)
      obtain ⟨q1,o1,rfl⟩ := hp
      refine J_all wS ts x pers_temR hxm ?_
      repeat (first|(first|refine zB ?_|refine zE ?_|refine zG ?_|refine zK ?_|refine zP ?_|refine zL rfl ?_)|(first|((first|refine zA rfl ?_);first|refine JOq (yH rfl rfl (by omega)) rfl ?_|refine zD rfl rfl ?_|refine yF rfl rfl ?_|refine zF rfl rfl ?_|refine zH rfl rfl ?_)))
      refine uI (α := Unit) (fun _ => [(1,ptr n1),(4,ptr n4),(6,.int .i64 (i : Int))]) (fun _ => [pt n4 (.cells #[str (e1 ++ r1),str (e2 ++ (r ++ c)),str []] 41 (0,0)),pt n1 (.cells [slc (p1,k1) ns.length,slc (some ⟨q1,o1,none⟩,k2) ts.length,slc (p3,k3) cs.length,slc (p4,k4) ss.length,slc u1a u1.length,slc u2a u2.length,slc u3a u3.length,slc u4a u4.length].toArray 28 (0,0)),Vw 6 (slc (p1,k1) ns.length) ns.length (ns.flatMap xR),yB wG ns,Vw 3 (slc (some ⟨q1,o1,none⟩,k2) ts.length) ts.length (ts.flatMap wA),yB wS ts,Vw 2 (slc (p3,k3) cs.length) cs.length (cs.flatMap yI),Vw 2 (slc (p4,k4) ss.length) ss.length (ss.flatMap vE),yB StaQ ss]) ?_ ?_
      · refine J_calm ?_
        refine tM 10 [pt n4 (.cells #[str (e1 ++ r1),str (e2 ++ r),str []] 41 (0,0)),pt n1 (.cells [slc (p1,k1) ns.length,slc (some ⟨q1,o1,none⟩,k2) ts.length,slc (p3,k3) cs.length,slc (p4,k4) ss.length,slc u1a u1.length,slc u2a u2.length,slc u3a u3.length,slc u4a u4.length].toArray 28 (0,0)),Vw 6 (slc (p1,k1) ns.length) ns.length (ns.flatMap xR),yB wG ns,Vw 3 (slc (some ⟨q1,o1,none⟩,k2) ts.length) ts.length (ts.flatMap wA),yB wS ts,Vw 2 (slc (p3,k3) cs.length) cs.length (cs.flatMap yI),Vw 2 (slc (p4,k4) ss.length) ss.length (ss.flatMap vE),yB StaQ ss] Ent.sel ?_
        (refine yO 0 rfl rfl (by kernel_rfl) (by kernel_rfl) (by kernel_rfl) rfl rfl rfl rfl Ent.sel (by first|exact yR 1 (j := 1) rfl rfl (by omega) rfl) ?_;refine yO 1 rfl rfl (by kernel_rfl) (by kernel_rfl) (by kernel_rfl) rfl rfl rfl rfl Ent.sel (by first|exact tC rfl (wB rfl)) ?_;refine yO 2 rfl rfl (by kernel_rfl) (by kernel_rfl) (by kernel_rfl) rfl rfl rfl rfl Ent.sel (by first|exact xP rfl) ?_;refine yO 3 rfl rfl (by kernel_rfl) (by kernel_rfl) (by kernel_rfl) rfl rfl rfl rfl Ent.sel (by first|exact tC rfl (wB rfl)) ?_;refine yO 4 rfl rfl (by kernel_rfl) (by kernel_rfl) (by kernel_rfl) rfl rfl rfl rfl Ent.sel (by first|exact xE rfl) ?_;refine yO 5 rfl rfl (by kernel_rfl) (by kernel_rfl) (by kernel_rfl) rfl rfl rfl rfl Ent.sel (by first|exact JQ_index rfl rfl hil) ?_;refine yO 6 rfl rfl (by kernel_rfl) (by kernel_rfl) (by kernel_rfl) rfl rfl rfl rfl Ent.sel (by first|exact xF (wA x) rfl (fun u z hu => xG (b := q1) (o := o1) (n := ts.length) (cap := k2) (j := i) hil (by rw [yY temC_len _ _ _ _ (by have := (List.getElem?_eq_some_iff.1 hu).1;exact this) hx];exact hu)) rfl) ?_)
        repeat' (first|refine JM_fin rfl ?_|refine wW rfl ?_|refine xT rfl rfl (by first|exact xN|exact zX xC|exact zX (fun _ _ _ _ h => .inr (yD _ _ _ _ h))) (zN rfl d rfl ⟨by first|exact (fun _ => Ent.sel),?_⟩)|refine xT rfl rfl (by first|exact zX xC|exact zX (fun _ _ _ _ h => .inr (yD _ _ _ _ h))) (JOq (tD (List.append_assoc e2 r c) rfl rfl (by (try simp only [List.length_append]);omega)) rfl ⟨by first|exact (fun h => absurd h (by decide))|exact (fun _ => Ent.sel),?_⟩)|refine xT rfl rfl (by first|exact zX xC|exact zX (fun _ _ _ _ h => .inr (yD _ _ _ _ h))) (JOq (yR 1 (j := 1) rfl rfl (by omega) rfl) rfl ⟨by first|exact (fun _ => Ent.sel),?_⟩)|refine xT rfl rfl (by first|exact zX xC) (zW rfl rfl (by first | rfl | assumption) rfl ⟨by first|exact (fun h => absurd h (by decide))|exact (fun _ => Ent.nil),?_⟩))
        all_goals exact ⟨(),by (repeat (first|exact zM _|refine zI rfl ?_)),rfl,Ent.sel⟩
      rintro ⟨⟩
      dsimp only [inB,thn]
      repeat (first|(first|refine zB ?_|refine zE ?_)|(first|((first|refine zA rfl ?_);first|refine yZ (b := 1) rfl rfl (by omega) rfl ?_|refine zD rfl rfl ?_|refine zC rfl rfl ?_)))
      exact ⟨⟨(i + 1,r ++ c),by simp only;omega,mapO_take hx hr hc⟩,by simp only;omega,by (repeat (first|exact zM _|refine zI rfl ?_)),rfl,Ent.sel⟩
    · obtain rfl : i = ts.length := by omega
      rw [List.take_length] at hr
      obtain rfl := Option.some.inj (hr.symm.trans m2)
      repeat (first|(first|refine zB ?_|refine zE ?_|refine zG ?_|refine zJ rfl ?_|refine xA ?_)|(first|((first|refine zA rfl ?_);first|refine JOq (yS rfl rfl (by omega)) rfl ?_|refine zD rfl rfl ?_|refine yF rfl rfl ?_|refine zF rfl rfl ?_|refine zH rfl rfl ?_)))
      exact ⟨(),by (repeat (first|exact zM _|refine zI rfl ?_)),rfl,Ent.sel⟩
  rintro ⟨⟩
  dsimp only [thn]
  repeat (first|(first|refine zB ?_|refine zE ?_|refine zG ?_)|(first|((first|refine zA rfl ?_);first|refine JOq (yR 2 (j := 2) rfl rfl (by omega) rfl) rfl ?_|refine zC rfl rfl ?_|refine yF rfl rfl ?_|refine zF rfl rfl ?_|refine zH rfl rfl ?_|refine zW rfl rfl (by first | rfl | assumption) rfl ?_|refine zR rfl (d3) rfl ?_)))
  refine uI (α := Unit) (fun _ => [(1,ptr n1),(4,ptr n4)]) (fun _ => [pt n4 (.cells #[str (e1 ++ r1),str (e2 ++ r2),str (e3 ++ r3)] 41 (0,0)),pt n1 (.cells [slc (p1,k1) ns.length,slc (p2,k2) ts.length,slc (p3,k3) cs.length,slc (p4,k4) ss.length,slc u1a u1.length,slc u2a u2.length,slc u3a u3.length,slc u4a u4.length].toArray 28 (0,0)),Vw 6 (slc (p1,k1) ns.length) ns.length (ns.flatMap xR),yB wG ns,Vw 3 (slc (p2,k2) ts.length) ts.length (ts.flatMap wA),yB wS ts,Vw 2 (slc (p3,k3) cs.length) cs.length (cs.flatMap yI),Vw 2 (slc (p4,k4) ss.length) ss.length (ss.flatMap vE),yB StaQ ss]) ?_ ?_
  · repeat (first|(first|refine zK ?_)|(first|((first|refine zA rfl ?_);first|refine zD rfl rfl ?_)))
    refine xU (β := { z : Nat × List UInt8 // z.1 ≤ cs.length ∧ uY xV (cs.take z.1) = some z.2 }) (fun z => [(1,ptr n1),(4,ptr n4),(7,.int .i64 (z.1.1 : Int))]) (fun _ => []) (fun z => [pt n4 (.cells #[str (e1 ++ r1),str (e2 ++ r2),str (e3 ++ z.1.2)] 41 (0,0)),pt n1 (.cells [slc (p1,k1) ns.length,slc (p2,k2) ts.length,slc (p3,k3) cs.length,slc (p4,k4) ss.length,slc u1a u1.length,slc u2a u2.length,slc u3a u3.length,slc u4a u4.length].toArray 28 (0,0)),Vw 6 (slc (p1,k1) ns.length) ns.length (ns.flatMap xR),yB wG ns,Vw 3 (slc (p2,k2) ts.length) ts.length (ts.flatMap wA),yB wS ts,Vw 2 (slc (p3,k3) cs.length) cs.length (cs.flatMap yI),Vw 2 (slc (p4,k4) ss.length) ss.length (ss.flatMap vE),yB StaQ ss]) (fun z => cs.length - z.1.1) ⟨(0,[]),by simp,rfl⟩ ?_ rfl ?_ ?_
    · (repeat (first|exact zM _|refine zI rfl ?_))
    · dsimp only
      rw [List.append_nil]
      exact Ent.sel
    rintro ⟨⟨i,r⟩,hi,hr⟩
    dsimp only at hi hr ⊢
    by_cases hil : i < cs.length
    · obtain ⟨x,hx⟩ : ∃ x,cs[i]? = some x := ⟨_,List.getElem?_eq_getElem hil⟩
      have hxm := List.mem_of_getElem? hx
      obtain ⟨c,hc⟩ := mapO_mem m3 x hxm
      have d := dlayType_c hc
      have hrl := mapO_take_len (b := 20) hr b3 (by decide) (fun x c => vL)
      have hcl := vL hc
      refine wE (φ := ∃ b o,p3 = some ⟨b,o,none⟩) (fun F w hs => (Ent.sel (K := [Vw 2 (slc (p3,k3) cs.length) cs.length (cs.flatMap yI)]) F w hs).tail.out (fun k hk => xW (by omega) k hk)) (fun hp => ?_)
      obtain ⟨q1,o1,rfl⟩ := hp
      repeat (first|(first|refine zB ?_|refine zE ?_|refine zG ?_|refine zK ?_|refine zP ?_|refine zL rfl ?_)|(first|((first|refine zA rfl ?_);first|refine JOq (yH rfl rfl (by omega)) rfl ?_|refine zD rfl rfl ?_|refine yF rfl rfl ?_|refine zF rfl rfl ?_|refine zH rfl rfl ?_)))
      refine uI (α := Unit) (fun _ => [(1,ptr n1),(4,ptr n4),(7,.int .i64 (i : Int))]) (fun _ => [pt n4 (.cells #[str (e1 ++ r1),str (e2 ++ r2),str (e3 ++ (r ++ c))] 41 (0,0)),pt n1 (.cells [slc (p1,k1) ns.length,slc (p2,k2) ts.length,slc (some ⟨q1,o1,none⟩,k3) cs.length,slc (p4,k4) ss.length,slc u1a u1.length,slc u2a u2.length,slc u3a u3.length,slc u4a u4.length].toArray 28 (0,0)),Vw 6 (slc (p1,k1) ns.length) ns.length (ns.flatMap xR),yB wG ns,Vw 3 (slc (p2,k2) ts.length) ts.length (ts.flatMap wA),yB wS ts,Vw 2 (slc (some ⟨q1,o1,none⟩,k3) cs.length) cs.length (cs.flatMap yI),Vw 2 (slc (p4,k4) ss.length) ss.length (ss.flatMap vE),yB StaQ ss]) ?_ ?_
      · refine J_calm ?_
        refine tM 10 [pt n4 (.cells #[str (e1 ++ r1),str (e2 ++ r2),str (e3 ++ r)] 41 (0,0)),pt n1 (.cells [slc (p1,k1) ns.length,slc (p2,k2) ts.length,slc (some ⟨q1,o1,none⟩,k3) cs.length,slc (p4,k4) ss.length,slc u1a u1.length,slc u2a u2.length,slc u3a u3.length,slc u4a u4.length].toArray 28 (0,0)),Vw 6 (slc (p1,k1) ns.length) ns.length (ns.flatMap xR),yB wG ns,Vw 3 (slc (p2,k2) ts.length) ts.length (ts.flatMap wA),yB wS ts,Vw 2 (slc (some ⟨q1,o1,none⟩,k3) cs.length) cs.length (cs.flatMap yI),Vw 2 (slc (p4,k4) ss.length) ss.length (ss.flatMap vE),yB StaQ ss] Ent.sel ?_
        (refine yO 0 rfl rfl (by kernel_rfl) (by kernel_rfl) (by kernel_rfl) rfl rfl rfl rfl Ent.sel (by first|exact yR 2 (j := 2) rfl rfl (by omega) rfl) ?_;refine yO 1 rfl rfl (by kernel_rfl) (by kernel_rfl) (by kernel_rfl) rfl rfl rfl rfl Ent.sel (by first|exact tC rfl (wB rfl)) ?_;refine yO 2 rfl rfl (by kernel_rfl) (by kernel_rfl) (by kernel_rfl) rfl rfl rfl rfl Ent.sel (by first|exact xP rfl) ?_;refine yO 3 rfl rfl (by kernel_rfl) (by kernel_rfl) (by kernel_rfl) rfl rfl rfl rfl Ent.sel (by first|exact tC rfl (wB rfl)) ?_;refine yO 4 rfl rfl (by kernel_rfl) (by kernel_rfl) (by kernel_rfl) rfl rfl rfl rfl Ent.sel (by first|exact xE rfl) ?_;refine yO 5 rfl rfl (by kernel_rfl) (by kernel_rfl) (by kernel_rfl) rfl rfl rfl rfl Ent.sel (by first|exact JQ_index rfl rfl hil) ?_;refine yO 6 rfl rfl (by kernel_rfl) (by kernel_rfl) (by kernel_rfl) rfl rfl rfl rfl Ent.sel (by first|exact xF (yI x) rfl (fun u z hu => xG (b := q1) (o := o1) (n := cs.length) (cap := k3) (j := i) hil (by rw [yY edgeC_len _ _ _ _ (by have := (List.getElem?_eq_some_iff.1 hu).1;exact this) hx];exact hu)) rfl) ?_)
        repeat' (first|refine JM_fin rfl ?_|refine wW rfl ?_|refine xT rfl rfl (by first|exact xN|exact zX xC|exact zX (fun _ _ _ _ h => .inr (yD _ _ _ _ h))) (zN rfl d rfl ⟨by first|exact (fun _ => Ent.sel),?_⟩)|refine xT rfl rfl (by first|exact zX xC|exact zX (fun _ _ _ _ h => .inr (yD _ _ _ _ h))) (JOq (tD (List.append_assoc e3 r c) rfl rfl (by (try simp only [List.length_append]);omega)) rfl ⟨by first|exact (fun h => absurd h (by decide))|exact (fun _ => Ent.sel),?_⟩)|refine xT rfl rfl (by first|exact zX xC|exact zX (fun _ _ _ _ h => .inr (yD _ _ _ _ h))) (JOq (yR 2 (j := 2) rfl rfl (by omega) rfl) rfl ⟨by first|exact (fun _ => Ent.sel),?_⟩)|refine xT rfl rfl (by first|exact zX xC) (zW rfl rfl (by first | rfl | assumption) rfl ⟨by first|exact (fun h => absurd h (by decide))|exact (fun _ => Ent.nil),?_⟩))
        all_goals exact ⟨(),by (repeat (first|exact zM _|refine zI rfl ?_)),rfl,Ent.sel⟩
      rintro ⟨⟩
      dsimp only [inB,thn]
      repeat (first|(first|refine zB ?_|refine zE ?_)|(first|((first|refine zA rfl ?_);first|refine yZ (b := 1) rfl rfl (by omega) rfl ?_|refine zD rfl rfl ?_|refine zC rfl rfl ?_)))
      exact ⟨⟨(i + 1,r ++ c),by simp only;omega,mapO_take hx hr hc⟩,by simp only;omega,by (repeat (first|exact zM _|refine zI rfl ?_)),rfl,Ent.sel⟩
    · obtain rfl : i = cs.length := by omega
      rw [List.take_length] at hr
      obtain rfl := Option.some.inj (hr.symm.trans m3)
      repeat (first|(first|refine zB ?_|refine zE ?_|refine zG ?_|refine zJ rfl ?_|refine xA ?_)|(first|((first|refine zA rfl ?_);first|refine JOq (yS rfl rfl (by omega)) rfl ?_|refine zD rfl rfl ?_|refine yF rfl rfl ?_|refine zF rfl rfl ?_|refine zH rfl rfl ?_)))
      exact ⟨(),by (repeat (first|exact zM _|refine zI rfl ?_)),rfl,Ent.sel⟩
  rintro ⟨⟩
  dsimp only [thn]
  refine zG ?_
  refine uI (α := Unit) (fun _ => [(1,ptr n1),(4,ptr n4)]) (fun _ => [pt n4 (.cells #[str (e1 ++ r1),str (e2 ++ r2),str e5] 41 (0,0)),pt n1 (.cells [slc (p1,k1) ns.length,slc (p2,k2) ts.length,slc (p3,k3) cs.length,slc (p4,k4) ss.length,slc u1a u1.length,slc u2a u2.length,slc u3a u3.length,slc u4a u4.length].toArray 28 (0,0)),Vw 6 (slc (p1,k1) ns.length) ns.length (ns.flatMap xR),yB wG ns,Vw 3 (slc (p2,k2) ts.length) ts.length (ts.flatMap wA),yB wS ts,Vw 2 (slc (p3,k3) cs.length) cs.length (cs.flatMap yI),Vw 2 (slc (p4,k4) ss.length) ss.length (ss.flatMap vE),yB StaQ ss]) ?_ ?_
  · have hr3 := mapO_take_len (o := xV) (i := cs.length) (b := 20) (l := cs) (r := r3) (by rw [List.take_length];exact m3) b3 (by decide) (fun x c => vL)
    refine J_calm ?_
    refine tM 8 [pt n4 (.cells #[str (e1 ++ r1),str (e2 ++ r2),str (e3 ++ r3)] 41 (0,0)),pt n1 (.cells [slc (p1,k1) ns.length,slc (p2,k2) ts.length,slc (p3,k3) cs.length,slc (p4,k4) ss.length,slc u1a u1.length,slc u2a u2.length,slc u3a u3.length,slc u4a u4.length].toArray 28 (0,0)),Vw 6 (slc (p1,k1) ns.length) ns.length (ns.flatMap xR),yB wG ns,Vw 3 (slc (p2,k2) ts.length) ts.length (ts.flatMap wA),yB wS ts,Vw 2 (slc (p3,k3) cs.length) cs.length (cs.flatMap yI),Vw 2 (slc (p4,k4) ss.length) ss.length (ss.flatMap vE),yB StaQ ss] Ent.sel ?_
    (refine yO 0 rfl rfl (by kernel_rfl) (by kernel_rfl) (by kernel_rfl) rfl rfl rfl rfl Ent.sel (by first|exact yR 2 (j := 2) rfl rfl (by omega) rfl) ?_;refine yO 1 rfl rfl (by kernel_rfl) (by kernel_rfl) (by kernel_rfl) rfl rfl rfl rfl Ent.sel (by first|exact tC rfl (wB rfl)) ?_;refine yO 2 rfl rfl (by kernel_rfl) (by kernel_rfl) (by kernel_rfl) rfl rfl rfl rfl Ent.sel (by first|exact xP rfl) ?_;refine yO 3 rfl rfl (by kernel_rfl) (by kernel_rfl) (by kernel_rfl) rfl rfl rfl rfl Ent.sel (by first|exact tC rfl (wB rfl)) ?_;refine yO 4 rfl rfl (by kernel_rfl) (by kernel_rfl) (by kernel_rfl) rfl rfl rfl rfl Ent.sel (by first|exact JQ_len rfl) ?_)
    repeat' (first|refine JM_fin rfl ?_|refine wW rfl ?_|refine xT rfl rfl (by first|exact xN|exact zX xC|exact zX (fun _ _ _ _ h => .inr (yD _ _ _ _ h))) (zN rfl d4 rfl ⟨by first|exact (fun _ => Ent.sel),?_⟩)|refine xT rfl rfl (by first|exact zX xC|exact zX (fun _ _ _ _ h => .inr (yD _ _ _ _ h))) (JOq (tD hde rfl rfl (by (try simp only [List.length_append]);omega)) rfl ⟨by first|exact (fun h => absurd h (by decide))|exact (fun _ => Ent.sel),?_⟩)|refine xT rfl rfl (by first|exact zX xC|exact zX (fun _ _ _ _ h => .inr (yD _ _ _ _ h))) (JOq (yR 2 (j := 2) rfl rfl (by omega) rfl) rfl ⟨by first|exact (fun _ => Ent.sel),?_⟩)|refine xT rfl rfl (by first|exact zX xC) (zW rfl rfl (by first | rfl | assumption) rfl ⟨by first|exact (fun h => absurd h (by decide))|exact (fun _ => Ent.nil),?_⟩))
    all_goals exact ⟨(),by (repeat (first|exact zM _|refine zI rfl ?_)),rfl,Ent.sel⟩
  rintro ⟨⟩
  dsimp only [thn]
  repeat (first|(first|refine zB ?_|refine zE ?_|refine zG ?_)|(first|((first|refine zA rfl ?_);first|refine zC rfl rfl ?_)))
  refine uI (α := Unit) (fun _ => [(1,ptr n1),(4,ptr n4)]) (fun _ => [pt n4 (.cells #[str (e1 ++ r1),str (e2 ++ r2),str (e5 ++ r4)] 41 (0,0)),pt n1 (.cells [slc (p1,k1) ns.length,slc (p2,k2) ts.length,slc (p3,k3) cs.length,slc (p4,k4) ss.length,slc u1a u1.length,slc u2a u2.length,slc u3a u3.length,slc u4a u4.length].toArray 28 (0,0)),Vw 6 (slc (p1,k1) ns.length) ns.length (ns.flatMap xR),yB wG ns,Vw 3 (slc (p2,k2) ts.length) ts.length (ts.flatMap wA),yB wS ts,Vw 2 (slc (p3,k3) cs.length) cs.length (cs.flatMap yI),Vw 2 (slc (p4,k4) ss.length) ss.length (ss.flatMap vE),yB StaQ ss]) ?_ ?_
  · repeat (first|(first|refine zK ?_)|(first|((first|refine zA rfl ?_);first|refine zD rfl rfl ?_)))
    refine xU (β := { z : Nat × List UInt8 // z.1 ≤ ss.length ∧ uY staO (ss.take z.1) = some z.2 }) (fun z => [(1,ptr n1),(4,ptr n4),(8,.int .i64 (z.1.1 : Int))]) (fun _ => []) (fun z => [pt n4 (.cells #[str (e1 ++ r1),str (e2 ++ r2),str (e5 ++ z.1.2)] 41 (0,0)),pt n1 (.cells [slc (p1,k1) ns.length,slc (p2,k2) ts.length,slc (p3,k3) cs.length,slc (p4,k4) ss.length,slc u1a u1.length,slc u2a u2.length,slc u3a u3.length,slc u4a u4.length].toArray 28 (0,0)),Vw 6 (slc (p1,k1) ns.length) ns.length (ns.flatMap xR),yB wG ns,Vw 3 (slc (p2,k2) ts.length) ts.length (ts.flatMap wA),yB wS ts,Vw 2 (slc (p3,k3) cs.length) cs.length (cs.flatMap yI),Vw 2 (slc (p4,k4) ss.length) ss.length (ss.flatMap vE),yB StaQ ss]) (fun z => ss.length - z.1.1) ⟨(0,[]),by simp,rfl⟩ ?_ rfl ?_ ?_
    · (repeat (first|exact zM _|refine zI rfl ?_))
    · dsimp only
      rw [List.append_nil]
      exact Ent.sel
    rintro ⟨⟨i,r⟩,hi,hr⟩
    dsimp only at hi hr ⊢
    by_cases hil : i < ss.length
    · obtain ⟨x,hx⟩ : ∃ x,ss[i]? = some x := ⟨_,List.getElem?_eq_getElem hil⟩
      have hxm := List.mem_of_getElem? hx
      obtain ⟨c,hc⟩ := mapO_mem m4 x hxm
      have d := dlayStart_c hc (ok2 x hxm) (b4.2 x hxm)
      have hrl := mapO_starts hr b4.1 ok2 b4.2
      have hcl := staO_len (ok2 x hxm) c hc
      have hcc := uL (f := fun _ : Ar => 30) (b := 30) (l := x.args) (fun _ _ => Nat.le_refl _)
      have hcn := b4.2 x hxm
      unfold costS at hcl
      refine wE (φ := ∃ b o,p4 = some ⟨b,o,none⟩) (fun F w hs => (Ent.sel (K := [Vw 2 (slc (p4,k4) ss.length) ss.length (ss.flatMap vE)]) F w hs).tail.out (fun k hk => xW (by omega) k hk)) (fun hp => ?_)
      obtain ⟨q1,o1,rfl⟩ := hp
      refine J_all StaQ ss x pers_staQ hxm ?_
      refine wQ (StaQ x) ?_
      refine xQ staR_of ?_
      repeat (first|(first|refine zB ?_|refine zE ?_|refine zG ?_|refine zK ?_|refine zP ?_|refine zL rfl ?_)|(first|((first|refine zA rfl ?_);first|refine JOq (yH rfl rfl (by omega)) rfl ?_|refine zD rfl rfl ?_|refine yF rfl rfl ?_|refine zF rfl rfl ?_|refine zH rfl rfl ?_)))
      refine uI (α := Unit) (fun _ => [(1,ptr n1),(4,ptr n4),(8,.int .i64 (i : Int))]) (fun _ => [pt n4 (.cells #[str (e1 ++ r1),str (e2 ++ r2),str (e5 ++ (r ++ c))] 41 (0,0)),pt n1 (.cells [slc (p1,k1) ns.length,slc (p2,k2) ts.length,slc (p3,k3) cs.length,slc (some ⟨q1,o1,none⟩,k4) ss.length,slc u1a u1.length,slc u2a u2.length,slc u3a u3.length,slc u4a u4.length].toArray 28 (0,0)),Vw 6 (slc (p1,k1) ns.length) ns.length (ns.flatMap xR),yB wG ns,Vw 3 (slc (p2,k2) ts.length) ts.length (ts.flatMap wA),yB wS ts,Vw 2 (slc (p3,k3) cs.length) cs.length (cs.flatMap yI),Vw 2 (slc (some ⟨q1,o1,none⟩,k4) ss.length) ss.length (ss.flatMap vE),yB StaQ ss]) ?_ ?_
      · refine J_calm ?_
        refine tM 10 [pt n4 (.cells #[str (e1 ++ r1),str (e2 ++ r2),str (e5 ++ r)] 41 (0,0)),pt n1 (.cells [slc (p1,k1) ns.length,slc (p2,k2) ts.length,slc (p3,k3) cs.length,slc (some ⟨q1,o1,none⟩,k4) ss.length,slc u1a u1.length,slc u2a u2.length,slc u3a u3.length,slc u4a u4.length].toArray 28 (0,0)),Vw 6 (slc (p1,k1) ns.length) ns.length (ns.flatMap xR),yB wG ns,Vw 3 (slc (p2,k2) ts.length) ts.length (ts.flatMap wA),yB wS ts,Vw 2 (slc (p3,k3) cs.length) cs.length (cs.flatMap yI),Vw 2 (slc (some ⟨q1,o1,none⟩,k4) ss.length) ss.length (ss.flatMap vE),yB StaQ ss] Ent.sel ?_
        (refine yO 0 rfl rfl (by kernel_rfl) (by kernel_rfl) (by kernel_rfl) rfl rfl rfl rfl Ent.sel (by first|exact yR 2 (j := 2) rfl rfl (by omega) rfl) ?_;refine yO 1 rfl rfl (by kernel_rfl) (by kernel_rfl) (by kernel_rfl) rfl rfl rfl rfl Ent.sel (by first|exact tC rfl (wB rfl)) ?_;refine yO 2 rfl rfl (by kernel_rfl) (by kernel_rfl) (by kernel_rfl) rfl rfl rfl rfl Ent.sel (by first|exact xP rfl) ?_;refine yO 3 rfl rfl (by kernel_rfl) (by kernel_rfl) (by kernel_rfl) rfl rfl rfl rfl Ent.sel (by first|exact tC rfl (wB rfl)) ?_;refine yO 4 rfl rfl (by kernel_rfl) (by kernel_rfl) (by kernel_rfl) rfl rfl rfl rfl Ent.sel (by first|exact xE rfl) ?_;refine yO 5 rfl rfl (by kernel_rfl) (by kernel_rfl) (by kernel_rfl) rfl rfl rfl rfl Ent.sel (by first|exact JQ_index rfl rfl hil) ?_;refine yO 6 rfl rfl (by kernel_rfl) (by kernel_rfl) (by kernel_rfl) rfl rfl rfl rfl Ent.sel (by first|exact xF (vE x) rfl (fun u z hu => xG (b := q1) (o := o1) (n := ss.length) (cap := k4) (j := i) hil (by rw [yY staC_len _ _ _ _ (by have := (List.getElem?_eq_some_iff.1 hu).1;exact this) hx];exact hu)) rfl) ?_)
        repeat' (first|refine JM_fin rfl ?_|refine wW rfl ?_|refine xT rfl rfl (by first|exact xN|exact zX xC|exact zX (fun _ _ _ _ h => .inr (yD _ _ _ _ h))) (zN rfl d rfl ⟨by first|exact (fun _ => Ent.sel),?_⟩)|refine xT rfl rfl (by first|exact zX xC|exact zX (fun _ _ _ _ h => .inr (yD _ _ _ _ h))) (JOq (tD (List.append_assoc e5 r c) rfl rfl (by (try simp only [List.length_append]);omega)) rfl ⟨by first|exact (fun h => absurd h (by decide))|exact (fun _ => Ent.sel),?_⟩)|refine xT rfl rfl (by first|exact zX xC|exact zX (fun _ _ _ _ h => .inr (yD _ _ _ _ h))) (JOq (yR 2 (j := 2) rfl rfl (by omega) rfl) rfl ⟨by first|exact (fun _ => Ent.sel),?_⟩)|refine xT rfl rfl (by first|exact zX xC) (zW rfl rfl (by first | rfl | assumption) rfl ⟨by first|exact (fun h => absurd h (by decide))|exact (fun _ => Ent.nil),?_⟩))
        all_goals exact ⟨(),by (repeat (first|exact zM _|refine zI rfl ?_)),rfl,Ent.sel⟩
      rintro ⟨⟩
      dsimp only [inB,thn]
      repeat (first|(first|refine zB ?_|refine zE ?_)|(first|((first|refine zA rfl ?_);first|refine yZ (b := 1) rfl rfl (by omega) rfl ?_|refine zD rfl rfl ?_|refine zC rfl rfl ?_)))
      exact ⟨⟨(i + 1,r ++ c),by simp only;omega,mapO_take hx hr hc⟩,by simp only;omega,by (repeat (first|exact zM _|refine zI rfl ?_)),rfl,Ent.sel⟩
    · obtain rfl : i = ss.length := by omega
      rw [List.take_length] at hr
      obtain rfl := Option.some.inj (hr.symm.trans m4)
      repeat (first|(first|refine zB ?_|refine zE ?_|refine zG ?_|refine zJ rfl ?_|refine xA ?_)|(first|((first|refine zA rfl ?_);first|refine JOq (yS rfl rfl (by omega)) rfl ?_|refine zD rfl rfl ?_|refine yF rfl rfl ?_|refine zF rfl rfl ?_|refine zH rfl rfl ?_)))
      exact ⟨(),by (repeat (first|exact zM _|refine zI rfl ?_)),rfl,Ent.sel⟩
  rintro ⟨⟩
  dsimp only [thn]
  repeat (first|(first|refine zB ?_|refine zE ?_|refine zG ?_|refine zV ?_)|(first|((first|refine zA rfl ?_);first|refine zU rfl (by rfl) rfl ?_|refine zC rfl rfl ?_|refine zU rfl (by rfl) rfl ?_|refine zT rfl rfl rfl ?_|refine zR rfl (cj) rfl ?_)))
  exact ret_twoV rfl rfl rfl .nil
end Go.Proofs.YtickblndgihoeaaGreatDoor
