/- Layer 11: laying sections, modules. -/
import Derived.Test.YtickblndgihoeaaGreatDoorM17
import Derived.Test.YtickblndgihoeaaGreatDoorM19
set_option linter.unusedSimpArgs false
namespace Go.Proofs.YtickblndgihoeaaGreatDoor
open Go Go.Sp
structure Mdl where
  nodes : List Nod
  na : SA
  temps : List Tem
  ta : SA
  chans : List (Int × Int)
  ca : SA
  starts : List Sta
  sa : SA
  nat : List Int
  nata : SA
  tat : List Int
  tata : SA
  cat : List Int
  cata : SA
  sat : List Int
  sata : SA
abbrev vN (m : Mdl) : List Value := [slc m.na m.nodes.length,slc m.ta m.temps.length,slc m.ca m.chans.length,slc m.sa m.starts.length,slc m.nata m.nat.length,slc m.tata m.tat.length,slc m.cata m.cat.length,slc m.sata m.sat.length]
def StaQ (s : Sta) : HP := fun k => (∀ p ∈ s.args,arOk p) ∧ StaR s k
theorem pers_staQ (s : Sta) : Pers (StaQ s) := fun k h => ⟨h.1,vQ _ _ _ _ k h.2⟩
theorem pers_nodR (n : Nod) : Pers (wG n) := vQ _ _ _ _
abbrev modK (m : Mdl) : List HP := [Vw 6 (slc m.na m.nodes.length) m.nodes.length (m.nodes.flatMap xR),yB wG m.nodes,Vw 3 (slc m.ta m.temps.length) m.temps.length (m.temps.flatMap wA),yB wS m.temps,Vw 2 (slc m.ca m.chans.length) m.chans.length (m.chans.flatMap yI),Vw 2 (slc m.sa m.starts.length) m.starts.length (m.starts.flatMap vE),yB StaQ m.starts,
  Vw 1 (slc m.nata m.nat.length) m.nat.length (ints m.nat),Vw 1 (slc m.tata m.tat.length) m.tat.length (ints m.tat),Vw 1 (slc m.cata m.cat.length) m.cat.length (ints m.cat),Vw 1 (slc m.sata m.sat.length) m.sat.length (ints m.sat)]
theorem pers_modK (m : Mdl) : ∀ A ∈ modK m,Pers A := by
  intro A hA
  simp only [modK,List.mem_cons,List.not_mem_nil,or_false] at hA
  rcases hA with rfl | rfl | rfl | rfl | rfl | rfl | rfl | rfl | rfl | rfl | rfl
  · exact vQ _ _ _ _
  · exact pers_all pers_nodR _
  · exact vQ _ _ _ _
  · exact pers_all pers_temR _
  · exact vQ _ _ _ _
  · exact vQ _ _ _ _
  · exact pers_all pers_staQ _
  · exact vQ _ _ _ _
  · exact vQ _ _ _ _
  · exact vQ _ _ _ _
  · exact vQ _ _ _ _
def uK (m : Mdl) : HP := fun k => ∀ A ∈ modK m,A k
theorem pers_modR (m : Mdl) : Pers (uK m) := fun k h A hA => pers_modK m A hA k (h A hA)
instance (m : Mdl) : PersA (uK m) := ⟨pers_modR m⟩
theorem modR_split (m : Mdl) : ∀ k,uK m k → Star (modK m) k := fun k h => star_pers fun A hA => ⟨pers_modK m A hA,h A hA⟩
def smallM (m : Mdl) : Prop := costs costN m.nodes ≤ 100000 ∧ costs costT m.temps ≤ 400000 ∧ costs (fun _ => 20) m.chans ≤ 10000 ∧ costs costS m.starts ≤ 10000
def sec1O (m : Mdl) : OB := wH 0 64 wJ m.nodes
noncomputable def sec2O (m : Mdl) : OB := wH 0 16 temO m.temps
def sec3O (m : Mdl) : OB := xM (wH 0 16 xV m.chans) (wH 0 8 staO m.starts)
def MdH (r : Nat) (m : Mdl) : HP := fun k => Star [pt r (.cells (vN m).toArray 28 (0,0)),uK m] k
theorem ct_all {α : Type} {R : α → HP} {f : FuncId} {args : Array Value} {o : OB} {w : Nat} {pre : List UInt8} {xs : List α} {x : α} (hR : ∀ x,Pers (R x)) (hx : x ∈ xs) (h : Ct Tryz.prog f args [WrB w pre,R x] (OutP o w pre [R x])) : Ct Tryz.prog f args [WrB w pre,yB R xs] (OutP o w pre [yB R xs]) :=
  ct_pers (K := [R x]) (pers_all hR xs) (fun k hk B hB => by
    simp only [List.mem_cons,List.not_mem_nil,or_false] at hB
    subst hB
    exact ⟨hR x,hk x hx⟩) h
theorem ct_staQ {f : FuncId} {args : Array Value} {o : OB} {w : Nat} {pre : List UInt8} {xs : List Sta} {x : Sta} (hx : x ∈ xs) (h : (∀ p ∈ x.args,arOk p) → Ct Tryz.prog f args [WrB w pre,StaR x] (OutP o w pre [StaR x])) : Ct Tryz.prog f args [WrB w pre,yB StaQ xs] (OutP o w pre [yB StaQ xs]) := fun F v hs =>
  ct_pers (K := [StaR x]) (pers_all pers_staQ xs) (fun k hk B hB => by
    simp only [List.mem_cons,List.not_mem_nil,or_false] at hB
    subst hB
    exact ⟨vQ _ _ _ _,(hk x hx).2⟩) (h (hs.tail.tail.out fun k hk => (hk x hx).1)) F v hs
theorem nod_one (n : Nod) : ∀ v ∈ xR n,v.oneCell' = true := by simp [Value.oneCell']
theorem tem_one (t : Tem) : ∀ v ∈ wA t,v.oneCell' = true := by simp [Value.oneCell']
theorem sta_one (s : Sta) : ∀ v ∈ vE s,v.oneCell' = true := by simp [Value.oneCell']
theorem mdh_in {r : Nat} {m : Mdl} {L : List HP} : Ent (pt r (.cells (vN m).toArray 28 (0,0)) :: uK m :: L) (MdH r m :: L) := ent_join (A := MdH r m) (M := [_,_]) (fun _ h => h)
theorem mdh_out {r : Nat} {m : Mdl} {L : List HP} : Ent (MdH r m :: L) (pt r (.cells (vN m).toArray 28 (0,0)) :: uK m :: L) := ent_split (A := MdH r m) (M := [_,_]) (fun _ h => h)
theorem modR_rows {m : Mdl} {L : List HP} : Ent (uK m :: L) (modK m ++ (uK m :: L)) := (Ent.dup (uK m)).trans (ent_split (modR_split m))
def LeO (o : OB) (n : Nat) : Prop := ∀ x,o = some x → x.length ≤ n
theorem LeO.mono {o : OB} {n m : Nat} (h : LeO o n) (hn : n ≤ m) : LeO o m := fun x hx => Nat.le_trans (h x hx) hn
theorem LeO.cat {a b : OB} {n m : Nat} (ha : LeO a n) (hb : LeO b m) : LeO (xM a b) (n + m) := fun x hx => by
  cases a with
  | none => cases hx
  | some u =>
    cases b with
    | none => cases hx
    | some v =>
      cases hx
      have := ha u rfl
      have := hb v rfl
      rw [List.length_append]
      omega
theorem LeO.none {n : Nat} : LeO none n := fun _ h => by cases h
theorem LeO.nil {n : Nat} : LeO (some []) n := fun _ h => by cases h;simp
theorem LeO.must {b : Bool} {n : Nat} : LeO (wV b) n := by cases b <;> first|exact LeO.none|exact LeO.nil
theorem LeO.num {n m : Int} (hm : m ≤ 1000000) : LeO (wK n m) 10 := fun _ h => vA h hm
theorem LeO.flag {b : Bool} : LeO (flagO b) 10 := fun _ h => flagO_len h
theorem LeO.edge {e : Int × Int} : LeO (xV e) 20 := fun _ h => vL h
theorem LeO.one {l : List (Int × Int)} : LeO (oneO l) 20 := by
  rcases l with _ | ⟨e,_ | ⟨e',l⟩⟩
  · exact LeO.none
  · exact LeO.edge
  · exact LeO.none
theorem LeO.list {α : Type} {least most : Int} {o : α → OB} {cost : α → Nat} (hm : most ≤ 1000000) {l : List α} (hc : ∀ x ∈ l,LeO (o x) (cost x)) : LeO (wH least most o l) (10 + costs cost l) := fun bs h => by
  have : wH least most o l = wH least most (fun x => @ite _ (LeO (o x) (cost x)) (Classical.propDecidable _) (o x) Option.none) l := listO_eq fun x hx => by rw [if_pos (hc x hx)]
  rw [this] at h
  refine listO_len hm (fun x bs hb => ?_) h
  by_cases hx : LeO (o x) (cost x)
  · rw [if_pos hx] at hb;exact hx bs hb
  · rw [if_neg hx] at hb;cases hb
theorem nodeO_len {n : Nod} {bs : List UInt8} (h : wJ n = some bs) : bs.length ≤ costN n := by
  have : LeO (wJ n) (costN n) := by
    unfold wJ costN
    split
    · exact ((LeO.num (by decide)).cat (LeO.must.cat (LeO.must.cat (LeO.must.cat (LeO.must (n := 0)))))).mono (m := 100 + costs (fun _ => 20) n.next) (n := 10 + (0 + (0 + (0 + 0)))) (by omega)
    split
    · exact ((LeO.num (by decide)).cat (LeO.must.cat (LeO.must.cat (LeO.must.cat LeO.one)))).mono (n := 10 + (0 + (0 + (0 + 20)))) (by omega)
    split
    · refine LeO.mono (n := 10 + (0 + (10 + (10 + (20 + 20))))) ((LeO.num (by decide)).cat (LeO.must.cat ((LeO.num (by decide)).cat (LeO.flag.cat (LeO.cat ?_ LeO.one))))) (by omega)
      split
      · exact LeO.edge
      · exact LeO.nil
    split
    · exact LeO.mono (n := 10 + (0 + (10 + (0 + (10 + costs (fun _ => 20) n.next))))) ((LeO.num (by decide)).cat (LeO.must.cat ((LeO.num (by decide)).cat (LeO.must.cat (LeO.list (by decide) fun _ _ => LeO.edge))))) (by omega)
    · exact LeO.none
  exact this bs h
abbrev temOk (t : Tem) : Prop := ∀ y ∈ t.code,-9223372036854775808 ≤ y.1.a ∧ y.1.a ≤ 9223372036854775807
theorem temO_len {t : Tem} (ht : temOk t) : LeO (temO t) (costT t) :=
  LeO.mono (n := 10 + costs (fun _ => 30) t.params + (10 + costs (fun _ => 140) t.code)) ((LeO.list (by decide) fun _ _ _ h => prmO_len h).cat (LeO.list (by decide) fun y hy _ h => insO_len' (ht y hy) h)) (by unfold costT;omega)
theorem staO_len {s : Sta} (hs : ∀ p ∈ s.args,arOk p) : LeO (staO s) (costS s) :=
  LeO.mono (n := 10 + (10 + costs (fun _ => 30) s.args)) ((LeO.num (by decide)).cat (LeO.list (by decide) fun p hp _ h => arO_len (hs p hp) h)) (by unfold costS;omega)
noncomputable def temO' (t : Tem) : OB := @ite _ (temOk t) (Classical.propDecidable _) (temO t) none
theorem temO_in {t : Tem} (h : temOk t) : temO' t = temO t := by unfold temO';rw [if_pos h]
theorem temO'_len (t : Tem) (bs : List UInt8) (h : temO' t = some bs) : bs.length ≤ costT t := by
  by_cases ht : temOk t
  · rw [temO_in ht] at h;exact temO_len ht bs h
  · unfold temO' at h;rw [if_neg ht] at h;cases h
noncomputable def staO' (s : Sta) : OB := @ite _ (∀ p ∈ s.args,arOk p) (Classical.propDecidable _) (staO s) none
theorem staO_in {s : Sta} (h : ∀ p ∈ s.args,arOk p) : staO' s = staO s := by unfold staO';rw [if_pos h]
theorem staO'_len (s : Sta) (bs : List UInt8) (h : staO' s = some bs) : bs.length ≤ costS s := by
  by_cases ht : ∀ p ∈ s.args,arOk p
  · rw [staO_in ht] at h;exact staO_len ht bs h
  · unfold staO' at h;rw [if_neg ht] at h;cases h
theorem modR_tem {m : Mdl} : ∀ k,uK m k → ∀ t ∈ m.temps,temOk t := fun k h t ht y hy => by
  have h1 : yB wS m.temps k := h _ (by simp)
  exact ((h1 t ht).2.2.1 y hy).1.2.2
theorem modR_sta {m : Mdl} : ∀ k,uK m k → ∀ s ∈ m.starts,∀ p ∈ s.args,arOk p := fun k h s hs => by
  have h1 : yB StaQ m.starts k := h _ (by simp)
  exact (h1 s hs).1
theorem mdh_tem {r : Nat} {m : Mdl} {L : List HP} {F : HP} {v : World} (h : Sat v (F :: MdH r m :: L)) : (∀ t ∈ m.temps,temOk t) ∧ ∀ s ∈ m.starts,∀ p ∈ s.args,arOk p := by
  have h1 := mdh_out F v h
  exact ⟨h1.tail.tail.out modR_tem,h1.tail.tail.out modR_sta⟩
attribute [local irreducible] callFunc Go.method J JL JO JR JR1 JRl Ct JG JM JM1 JW JW1 JQ JQ0 JS CtD xB WrB by8 wK Emp xV wH ints chkA tJ CodH MdH uK yB
theorem laid1_c (w rm : Nat) (m : Mdl) (hm : smallM m) : Ct Tryz.prog 51 #[lay w,ptr rm] [WrB w [],MdH rm m] (OutP (sec1O m) w [] [MdH rm m]) := by
  have c1 := listedNode_c xR wJ costN (f := 53) [lay w] [] (yB wG m.nodes) (fun _ => rfl) nod_one (fun _ _ h => nodeO_len h) w m.nodes (fun x hx p hp => ct_all pers_nodR hx (node11_c w p x hp)) m.na 0 64 (by decide) [] (by have := hm.1;simp only [List.length_nil];omega)
  refine yE (vs := [_,_]) Tryz.func51 rfl Tryz.ntmps51 (by simp) ?_
  refine xQ ((Ent.perm (List.Perm.swap _ _ _)).trans (mdh_out.trans ((Ent.perm (List.Perm.swap _ _ _)).trans modR_rows))) ?_
  simp only [modK,List.cons_append,List.nil_append]
  repeat (first|(first|refine zB ?_|refine zE ?_|refine zG ?_)|(first|((first|refine zA rfl ?_);first|refine zF rfl rfl ?_|refine zH rfl rfl ?_|refine zU rfl (by rfl) rfl ?_|refine yN rfl rfl (fun r => ?_)|refine wP rfl rfl rfl ?_)))
  refine zA rfl (xJ rfl c1 rfl (fun b1 g1 => ?_) (fun g1 => yW g1))
  repeat (first|(first|refine zE ?_)|(first|((first|refine zA rfl ?_);first|refine zD rfl rfl ?_)))
  exact uP rfl g1 (by simp) ((Ent.sel (K := [pt rm (.cells (vN m).toArray 28 (0,0)),uK m])).trans mdh_in)
theorem laid2_c (w rm : Nat) (m : Mdl) (hm : smallM m) : Ct Tryz.prog 54 #[lay w,ptr rm] [WrB w [],MdH rm m] (OutP (sec2O m) w [] [MdH rm m]) := by
  refine yE (vs := [_,_]) Tryz.func54 rfl Tryz.ntmps54 (by simp) ?_
  refine wE (fun F v hs => (mdh_tem (hs.perm ((List.Perm.swap _ _ _).cons _))).1) fun ht => ?_
  have c1 := listedTemplate_c wA temO' costT (f := 56) [lay w] [] (yB wS m.temps) (fun _ => rfl) tem_one temO'_len w m.temps (fun x hx p hp => by rw [temO_in (ht x hx)];exact ct_all pers_temR hx (tem11_c w p x hp)) m.ta 0 16 (by decide) [] (by have := hm.2.1;simp only [List.length_nil];omega)
  rw [listO_eq (o' := temO) (fun x hx => temO_in (ht x hx))] at c1
  refine xQ ((Ent.perm (List.Perm.swap _ _ _)).trans (mdh_out.trans ((Ent.perm (List.Perm.swap _ _ _)).trans modR_rows))) ?_
  simp only [modK,List.cons_append,List.nil_append]
  repeat (first|(first|refine zB ?_|refine zE ?_|refine zG ?_)|(first|((first|refine zA rfl ?_);first|refine zF rfl rfl ?_|refine zH rfl rfl ?_|refine zU rfl (by rfl) rfl ?_|refine yN rfl rfl (fun r => ?_)|refine wP rfl rfl rfl ?_)))
  refine zA rfl (xJ rfl c1 rfl (fun b1 g1 => ?_) (fun g1 => yW g1))
  repeat (first|(first|refine zE ?_)|(first|((first|refine zA rfl ?_);first|refine zD rfl rfl ?_)))
  exact uP rfl g1 (by simp) ((Ent.sel (K := [pt rm (.cells (vN m).toArray 28 (0,0)),uK m])).trans mdh_in)
theorem laid3_c (w rm : Nat) (m : Mdl) (hm : smallM m) : Ct Tryz.prog 57 #[lay w,ptr rm] [WrB w [],MdH rm m] (OutP (sec3O m) w [] [MdH rm m]) := by
  refine yE (vs := [_,_]) Tryz.func57 rfl Tryz.ntmps57 (by simp) ?_
  refine wE (fun F v hs => (mdh_tem (hs.perm ((List.Perm.swap _ _ _).cons _))).2) fun ht => ?_
  obtain ⟨_,_,hm3,hm4⟩ := hm
  have c1 := listedType_c yI xV (fun _ => 20) (f := 59) [lay w] [] Emp (fun _ => rfl) edge_one (fun _ _ h => vL h) w m.chans (fun x _ p hp => ct_emp (typ11_c w p x (by omega))) m.ca 0 16 (by decide) [] (by simp only [List.length_nil];omega)
  refine xQ ((Ent.perm (List.Perm.swap _ _ _)).trans (mdh_out.trans ((Ent.perm (List.Perm.swap _ _ _)).trans modR_rows))) ?_
  simp only [modK,List.cons_append,List.nil_append]
  refine xQ emp_in ?_
  repeat (first|(first|refine zB ?_|refine zE ?_|refine zG ?_)|(first|((first|refine zA rfl ?_);first|refine zF rfl rfl ?_|refine zH rfl rfl ?_|refine zU rfl (by rfl) rfl ?_|refine yN rfl rfl (fun r => ?_)|refine wP rfl rfl rfl ?_)))
  refine zA rfl (xJ rfl c1 rfl (fun b1 g1 => ?_) (fun g1 => yW (by unfold sec3O;rw [g1,catO_none])))
  have l1 := listO_len (by decide) (fun _ _ h => vL h) g1
  have c2 := listedStart_c vE staO' costS (f := 61) [lay w] [] (yB StaQ m.starts) (fun _ => rfl) sta_one staO'_len w m.starts (fun x hx p hp => by rw [staO_in (ht x hx)];exact ct_staQ hx (fun ha => sta11_c w p x ha hp)) m.sa 0 8 (by decide) ([] ++ b1) (by rw [List.nil_append];omega)
  rw [listO_eq (o' := staO) (fun x hx => staO_in (ht x hx))] at c2
  repeat (first|(first|refine zB ?_|refine zE ?_)|(first|((first|refine zA rfl ?_);first|refine zF rfl rfl ?_|refine zH rfl rfl ?_|refine zU rfl (by rfl) rfl ?_|refine wP rfl rfl rfl ?_)))
  refine zA rfl (xJ rfl c2 rfl (fun b2 g2 => ?_) (fun g2 => yW (by unfold sec3O;rw [g2,catO_none'])))
  repeat (first|(first|refine zE ?_)|(first|((first|refine zA rfl ?_);first|refine zD rfl rfl ?_)))
  exact uP rfl (show _ = some (b1 ++ b2) by unfold sec3O;rw [g1,g2];rfl) (by simp) ((Ent.sel (K := [pt rm (.cells (vN m).toArray 28 (0,0)),uK m])).trans mdh_in)
end Go.Proofs.YtickblndgihoeaaGreatDoor
