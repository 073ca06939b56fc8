/- Literals of rows of structs, as frozen rows; what holds nothing. -/
import Derived.Test.YtickblndgihoeaaGreatDoorM17
import Derived.Test.YtickblndgihoeaaGreatDoorM24
import Derived.Test.YtickblndgihoeaaGreatDoorM33
import Derived.Test.YtickblndgihoeaaGreatDoorM5
import Derived.Test.YtickblndgihoeaaGreatDoorM32
set_option linter.unusedSimpArgs false
namespace Go.Sp
open Go.RowKit
theorem nil_vw (sz : Nat) (k : Part) : Vw sz (.slice none 0 0) 0 [] k := ⟨by simp,by decide,none,0,rfl,.inl rfl⟩
theorem ent_true {A : HP} {L : List HP} (h : ∀ k,A k) : Ent L (A :: L) := fun _ _ hs => (hs.add (h _)).swap
theorem cat_map {α : Type} (c : α → List Value) {sz : Nat} (hsz : ∀ x,(c x).length = sz) : ∀ l : List α,Cat (l.map fun x => .agg (c x).toArray) sz (l.flatMap c) := fun l => ⟨fun u hu => by
  obtain ⟨y,_,rfl⟩ := List.mem_map.1 hu
  simp [Value.cells,hsz],by
  induction l with
  | nil => rfl
  | cons y l ih =>
    simp only [List.map_cons,List.flatMap_cons,ih]
    simp [Value.cells]⟩
section
variable {P : Program} {N : Nat} {rd : Option Nat} {E : Env} {D : List Deferred} {L : List HP} {Q : uF}
variable {d : Option Nat} {ty : TypeId} {pos : String} {after : Array Edge} {g : Option (Nat × Bool)} {next : Env → List Deferred → List HP → Prop}
theorem JO_rowV {α : Type} (c : α → List Value) (l : List α) {t e : TypeId} [TU P t (.slice e)] {z : Value} {sz k : Nat} [TI P e z sz k] (hsz : ∀ x,(c x).length = sz) {len : Nat} {parts : Array (Nat × Operand)} {xs : List Operand}
    (hp : inOrder parts.toList 0 = some xs) (hx : evs E xs = some (l.map fun x => .agg (c x).toArray)) (hlen : len = l.length) (hb : len * sz ≤ 16777216) (hm : len ≤ maxLen) (hd : dok N d = true)
    (h : ∀ r,next (put E d (.slice (some ⟨r,0,none⟩) l.length l.length)) D (Vw sz (.slice (some ⟨r,0,none⟩) l.length l.length) l.length (l.flatMap c) :: L)) :
    JO P N rd ⟨d,.buildSlice t len parts,ty,pos,after,g⟩ E D L next Q := by
  subst hlen
  have hc := cat_map c hsz l
  refine JO_weak (next := fun E' D' L' => ∃ r,E' = put E d (.slice (some ⟨r,0,none⟩) l.length l.length) ∧ D' = D ∧ L' = pt r (.cells (l.flatMap c).toArray e (0,0)) :: L) (yP (n := sz) (hc := hc) hp hx (by simp) hb hd (fun r => ⟨r,rfl,rfl,rfl⟩)) ?_
  rintro E' D' L' ⟨r,rfl,rfl,rfl⟩
  refine ⟨_,?_,h r⟩
  have hl : (l.flatMap c).length = l.length * sz := by
    have : ∀ l : List α,(l.flatMap c).length = l.length * sz := fun l => by
      induction l with
      | nil => simp
      | cons y l ih => rw [List.flatMap_cons,List.length_append,ih,hsz,List.length_cons,Nat.succ_mul];omega
    exact this l
  exact (ent_own (sz := sz) hl (Nat.le_refl _) hm hl).trans ent_freeze
end
end Go.Sp

/- Layer 11: what the laws use: bytes turned,the least module,what fails. -/
namespace Go.Proofs.YtickblndgihoeaaGreatDoor
open Go Go.Sp
theorem some_byte (op : BinOp) (m n : Int) : ∃ c : UInt8,ibits op .u8 m n = ((c.toNat : Nat) : Int) := by
  have h : ∀ z : Int,∃ c : UInt8,IntKind.u8.wrap z = ((c.toNat : Nat) : Int) := fun z => by
    have e : IntKind.u8.wrap z = z % 256 := by simp [IntKind.wrap,IntKind.signed,IntKind.bits]
    refine ⟨UInt8.ofNat (z % 256).toNat,?_⟩
    rw [e,toNat_of (by omega)]
    omega
  exact h _
attribute [local irreducible] callFunc Go.method J JL JO JR JR1 JRl Ct JG JM JM1 JQ JQ0 JS CtD xB by8 ibits ints chkA tJ yB uK wZ
set_option maxRecDepth 8000 in
set_option maxHeartbeats 4000000 in
theorem turned11_c (s : List UInt8) (at_ by_ : Nat) (hat : at_ < 65536) (hs : s.length ≤ 1000000) :
    Ct Tryz.prog 13 #[str s,.agg #[.int .u16 (at_ : Int),.int .u8 (by_ : Int)]] [] (RetE (fun u : List UInt8 => u.length ≤ s.length) str (fun _ => [])) := by
  refine yE (vs := [_,_]) Tryz.func13 rfl Tryz.ntmps13 (by simp) ?_
  repeat (first|(first|refine zB ?_|refine zE ?_|refine zG ?_)|(first|((first|refine zA rfl ?_);first|refine zD rfl rfl ?_|refine zC rfl rfl ?_|refine yN rfl rfl (fun r => ?_))))
  revert r
  intro n3
  refine zA rfl (JO_bytesO (bs := s) rfl rfl fun b cap sp fz hcap hfz => ?_)
  repeat (first|(first|refine zB ?_|refine zE ?_|refine zG ?_)|(first|((first|refine zA rfl ?_);first|refine zD rfl rfl ?_|refine zC rfl rfl ?_|refine yF rfl rfl ?_|refine JO_gtr rfl rfl rfl ?_)))
  refine uI (α := { us : List UInt8 // us.length = s.length }) (fun _ => [(3,ptr n3),(5,.slice (some ⟨b,0,none⟩) s.length cap)]) (fun us => [pt b (.cells (by8 us.1 ++ sp).toArray 5 fz),pt n3 (.cells #[.int .u16 (at_ : Int),.int .u8 (by_ : Int)] 37 (0,0))]) ?_ ?_
  · refine J_condP rfl (fun h0 => ?_) (fun h0 => ?_)
    · have hm : at_ % s.length < s.length := Nat.mod_lt _ (by omega)
      obtain ⟨x,hx⟩ : ∃ x,s[at_ % s.length]? = some x := ⟨_,List.getElem?_eq_getElem hm⟩
      have hlx : (by8 s ++ sp)[at_ % s.length]? = some (.int .u8 ((x.toNat : Nat) : Int)) := by
        rw [List.getElem?_append_left (by rw [length_by8];exact hm)]
        exact by8_get hx
      obtain ⟨c,hc⟩ := some_byte .xor ((x.toNat : Nat) : Int) (by_ : Int)
      have hset : (by8 s ++ sp).set (at_ % s.length) (.int .u8 ((c.toNat : Nat) : Int)) = by8 (s.set (at_ % s.length) c) ++ sp := by
        rw [List.set_append_left _ _ (by rw [length_by8];exact hm)]
        simp [by8,List.map_set]
      refine J_calm ?_
      refine tM 13 [pt b (.cells (by8 s ++ sp).toArray 5 fz),pt n3 (.cells #[.int .u16 (at_ : Int),.int .u8 (by_ : Int)] 37 (0,0))] Ent.sel ?_
      (refine yO 0 rfl rfl (by kernel_rfl) (by kernel_rfl) (by kernel_rfl) rfl rfl rfl rfl Ent.sel (by first|exact xE rfl) ?_;refine yO 1 rfl rfl (by kernel_rfl) (by kernel_rfl) (by kernel_rfl) rfl rfl rfl rfl Ent.sel (by first|exact xP rfl) ?_;refine yO 2 rfl rfl (by kernel_rfl) (by kernel_rfl) (by kernel_rfl) rfl rfl rfl rfl Ent.sel (by first|exact xL rfl) ?_;refine yO 3 rfl rfl (by kernel_rfl) (by kernel_rfl) (by kernel_rfl) rfl rfl rfl rfl Ent.sel (by first|exact yX (a := at_) rfl (vF (by omega))) ?_;refine yO 4 rfl rfl (by kernel_rfl) (by kernel_rfl) (by kernel_rfl) rfl rfl rfl rfl Ent.sel (by first|exact xE rfl) ?_;refine yO 5 rfl rfl (by kernel_rfl) (by kernel_rfl) (by kernel_rfl) rfl rfl rfl rfl Ent.sel (by first|exact JQ_len rfl) ?_;refine yO 6 rfl rfl (by kernel_rfl) (by kernel_rfl) (by kernel_rfl) rfl rfl rfl rfl Ent.sel (by first|exact JQ_remF (a := at_) (b := s.length) rfl rfl (by omega)) ?_;refine yO 7 rfl rfl (by kernel_rfl) (by kernel_rfl) (by kernel_rfl) rfl rfl rfl rfl Ent.sel (by first|exact JQ_index1 rfl rfl (by omega)) ?_;refine yO 8 rfl rfl (by kernel_rfl) (by kernel_rfl) (by kernel_rfl) rfl rfl rfl rfl Ent.sel (by first|exact tC rfl (wB (by rw [Nat.zero_add];exact hlx))) ?_;refine yO 9 rfl rfl (by kernel_rfl) (by kernel_rfl) (by kernel_rfl) rfl rfl rfl rfl Ent.sel (by first|exact xP rfl) ?_;refine yO 10 rfl rfl (by kernel_rfl) (by kernel_rfl) (by kernel_rfl) rfl rfl rfl rfl Ent.sel (by first|exact xL rfl) ?_;refine yO 11 rfl rfl (by kernel_rfl) (by kernel_rfl) (by kernel_rfl) rfl rfl rfl rfl Ent.sel (by first|exact JQ_bitsV ((c.toNat : Nat) : Int) (.inr (.inr (.inl rfl))) rfl rfl hc) ?_;refine yO 12 rfl rfl (by kernel_rfl) (by kernel_rfl) (by kernel_rfl) rfl rfl rfl rfl Ent.sel (by first|exact JQ_index1 rfl rfl (by omega)) ?_)
      refine wW rfl ?_
      refine xT rfl rfl (zX xC) (JO_storeF rfl rfl (by rw [Nat.zero_add];exact hfz _ hm) (by rw [Nat.zero_add,List.length_append,length_by8];omega) rfl rfl ⟨fun h => absurd h (by decide),?_⟩)
      refine JM_fin rfl ?_
      rw [Nat.zero_add,hset]
      exact ⟨⟨s.set (at_ % s.length) c,by simp⟩,by (repeat (first|exact zM _|refine zI rfl ?_)),rfl,Ent.sel⟩
    · refine zP ?_
      exact ⟨⟨s,rfl⟩,by (repeat (first|exact zM _|refine zI rfl ?_)),rfl,Ent.sel⟩
  · rintro ⟨us,hus⟩
    dsimp only [thn]
    have hst : ∀ (j : Nat) (c : UInt8),us[j]? = some c → (by8 us ++ sp)[j]? = some (.int .u8 ((c.toNat : Nat) : Int)) := fun j c h1 => by
      rw [List.getElem?_append_left (by rw [length_by8];exact (List.getElem?_eq_some_iff.1 h1).1)]
      exact by8_get h1
    repeat (first|(first|refine zB ?_|refine zE ?_|refine zG ?_|refine zV ?_)|(first|((first|refine zA rfl ?_);first|refine JOq (JQ_strF us rfl hus.symm hst) rfl ?_|refine zD rfl rfl ?_|refine zC rfl rfl ?_)))
    exact ret_one rfl rfl us (by omega) rfl .nil
abbrev leastN : Nod := ⟨0,0,false,(0,0),[],no0⟩
abbrev leastY : YI := (⟨24,0,0,0,0,[]⟩,none,0)
abbrev leastT (a : SA) : Tem := ⟨[],no0,[leastY],a,[],no0⟩
abbrev leastS : Sta := ⟨0,[],no0⟩
abbrev leastM (a b c d : SA) : Mdl := ⟨[leastN],a,[leastT b],c,[],no0,[leastS],d,[],no0,[],no0,[],no0,[],no0⟩
theorem tru_nod (n : Nod) (h1 : n.next = []) (h2 : n.a = no0) (k : Part) : wG n k := by unfold wG;rw [h1,h2];exact nil_vw 2 k
theorem tru_ins (x : Ins) (h : x.l = []) (ha : -9223372036854775808 ≤ x.a ∧ x.a ≤ 9223372036854775807) (k : Part) : uT (x,none,0) k := by
  obtain ⟨o,a,b,c,d,l⟩ := x
  subst h
  exact ⟨⟨by simp,by simp,ha⟩,(show ints [] = [] by unfold ints;rfl) ▸ nil_vw 1 k⟩
theorem tru_sta (s : Sta) (h1 : s.args = []) (h2 : s.a = no0) (k : Part) : StaQ s k := by
  unfold StaQ StaR
  rw [h1,h2]
  exact ⟨by simp,nil_vw 3 k⟩
theorem all_one {α : Type} {R : α → HP} {x : α} {k : Part} (h : R x k) : yB R [x] k := by
  unfold yB
  intro y hy
  rw [List.mem_singleton] at hy
  rw [hy];exact h
theorem ints_nil : ints [] = [] := by unfold ints;rfl
theorem leastM_in (a b c d : SA) {L : List HP} : Ent (Vw 6 (slc a 1) 1 ([leastN].flatMap xR) :: Vw 6 (slc b 1) 1 ([leastY].flatMap vC) :: Vw 3 (slc c 1) 1 ([leastT b].flatMap wA) :: Vw 2 (slc d 1) 1 ([leastS].flatMap vE) :: L) (uK (leastM a b c d) :: L) :=
  ent_conj (A := uK (leastM a b c d)) (M := [_,_,_,_]) (fun B hB => by
    simp only [List.mem_cons,List.not_mem_nil,or_false] at hB
    rcases hB with rfl | rfl | rfl | rfl <;> exact up_vw _ _ _ _) fun k h => by
    have h1 := h _ (List.mem_cons_self ..)
    have h2 := h _ (List.mem_cons_of_mem _ (List.mem_cons_self ..))
    have h3 := h _ (List.mem_cons_of_mem _ (List.mem_cons_of_mem _ (List.mem_cons_self ..)))
    have h4 := h _ (List.mem_cons_of_mem _ (List.mem_cons_of_mem _ (List.mem_cons_of_mem _ (List.mem_cons_self ..))))
    have hi : Vw 1 (slc no0 0) 0 (ints []) k := by rw [ints_nil];exact nil_vw 1 k
    unfold uK
    intro A hA
    simp only [modK,List.mem_cons,List.not_mem_nil,or_false] at hA
    rcases hA with rfl | rfl | rfl | rfl | rfl | rfl | rfl | rfl | rfl | rfl | rfl
    · exact h1
    · exact all_one (tru_nod _ rfl rfl k)
    · exact h3
    · exact all_one ⟨nil_vw 3 k,h2,all_one (tru_ins _ rfl (by decide) k),hi⟩
    · exact nil_vw 2 k
    · exact h4
    · exact all_one (tru_sta _ rfl rfl k)
    · exact hi
    · exact hi
    · exact hi
    · exact hi
set_option maxHeartbeats 4000000 in
theorem least11_c : Ct Tryz.prog 30 #[] [] (RetE (fun _ : SA × SA × SA × SA => True) (fun x => .agg (vN (leastM x.1 x.2.1 x.2.2.1 x.2.2.2)).toArray) (fun x => [uK (leastM x.1 x.2.1 x.2.2.1 x.2.2.2)])) := by
  refine yE (vs := []) Tryz.func30 rfl Tryz.ntmps30 (by simp) ?_
  repeat (first|(first|refine zB ?_|refine zE ?_|refine zG ?_)|(first|((first|refine zA rfl ?_);first|refine yG (cs := xR leastN) rfl rfl rfl ?_|refine yG (cs := vC leastY) rfl rfl rfl ?_|refine JO_rowV xR [leastN] nodC_len rfl rfl rfl (by decide) (by decide) rfl (fun r1 => ?_)|refine JO_rowV vC [leastY] insC_len rfl rfl rfl (by decide) (by decide) rfl (fun r2 => ?_)|refine zS rfl (fun r => ?_))))
  refine zA rfl (yG (cs := wA (leastT (some ⟨r2,0,none⟩,1))) rfl rfl rfl ?_)
  refine zA rfl (JO_rowV wA [leastT (some ⟨r2,0,none⟩,1)] temC_len rfl rfl rfl (by decide) (by decide) rfl (fun r3 => ?_))
  repeat (first|(first|refine zE ?_|refine zV ?_)|(first|((first|refine zA rfl ?_);first|refine yG (cs := vE leastS) rfl rfl rfl ?_|refine JO_rowV vE [leastS] staC_len rfl rfl rfl (by decide) (by decide) rfl (fun r4 => ?_)|refine yG (cs := vN (leastM (some ⟨r1,0,none⟩,1) (some ⟨r2,0,none⟩,1) (some ⟨r3,0,none⟩,1) (some ⟨r4,0,none⟩,1))) rfl rfl rfl ?_|refine zO rfl rfl (by rfl) (by rfl) (by simp [Value.oneCell']) rfl ?_)))
  refine ⟨rfl,_,wT rfl rfl rfl,[uK (leastM (some ⟨r1,0,none⟩,1) (some ⟨r2,0,none⟩,1) (some ⟨r3,0,none⟩,1) (some ⟨r4,0,none⟩,1))],?_,((some ⟨r1,0,none⟩,1),(some ⟨r2,0,none⟩,1),(some ⟨r3,0,none⟩,1),(some ⟨r4,0,none⟩,1)),trivial,rfl,rfl⟩
  exact (Ent.sel (K := [Vw 6 (.slice (some ⟨r1,0,none⟩) 1 1) 1 ([leastN].flatMap xR),Vw 6 (.slice (some ⟨r2,0,none⟩) 1 1) 1 ([leastY].flatMap vC),Vw 3 (.slice (some ⟨r3,0,none⟩) 1 1) 1 ([leastT (some ⟨r2,0,none⟩,1)].flatMap wA),Vw 2 (.slice (some ⟨r4,0,none⟩) 1 1) 1 ([leastS].flatMap vE)])).trans (leastM_in (some ⟨r1,0,none⟩,1) (some ⟨r2,0,none⟩,1) (some ⟨r3,0,none⟩,1) (some ⟨r4,0,none⟩,1))
set_option maxHeartbeats 4000000 in
theorem fails11_c (s : List UInt8) (hs : s.length ≤ 1000000) {c a : Int} (h : wZ s = .bad c a) (hc : c ≠ 0) (te : TypeId) (fz : Nat × Nat) : Ct Tryz.prog 17 #[str s,.int .i64 c,.int .i64 a] [Gl te fz] (wF (.bool true) [Gl te fz]) := by
  have hr := read11_bad s hs h
  refine yE (vs := [_,_,_]) Tryz.func17 rfl Tryz.ntmps17 (by simp) ?_
  repeat (first|(first|refine zB ?_|refine zE ?_|refine zG ?_)|(first|((first|refine zA rfl ?_);first|refine yK rfl hr rfl (fun q _ => ?_)|refine zO rfl rfl (by rfl) (by rfl) (by simp [Value.oneCell']) rfl ?_|refine zD rfl rfl ?_|refine zC rfl rfl ?_|refine zT rfl rfl rfl ?_|refine zS rfl (fun r => ?_))))
  have ht := told_faultK q c a hc te fz
  repeat (first|(first|refine zE ?_|refine zV ?_)|(first|((first|refine zA rfl ?_|refine zZ rfl rfl ?_);first|refine yG (cs := [.int .i64 c,.int .i64 a]) rfl rfl rfl ?_|refine yZ (a := 0) (b := 0) rfl rfl (by omega) rfl ?_|refine JOq (yT rfl rfl (by omega)) rfl ?_|refine zD rfl rfl ?_|refine zC rfl rfl ?_|refine yF rfl rfl ?_|refine zF rfl rfl ?_|refine zH rfl rfl ?_|refine yA rfl rfl rfl ?_|refine zN rfl (ht) rfl ?_)))
  exact zY rfl rfl Ent.sel
end Go.Proofs.YtickblndgihoeaaGreatDoor

/- Layer 11: alike modules are laid alike;what the examples read. -/
namespace Go.Proofs.YtickblndgihoeaaGreatDoor
open Go Go.Sp
theorem mapO_map {α β : Type} (o : β → OB) (f : α → β) : ∀ l : List α,uY (fun x => o (f x)) l = uY o (l.map f)
  | [] => rfl
  | x :: l => by
    show xM (o (f x)) (uY (fun x => o (f x)) l) = xM (o (f x)) (uY o (l.map f))
    rw [mapO_map o f l]
theorem listO_map {α β : Type} (least most : Int) (o : β → OB) (f : α → β) (l : List α) : wH least most (fun x => o (f x)) l = wH least most o (l.map f) := by
  unfold wH
  rw [mapO_map,List.length_map]
noncomputable def temG (x : List Prm × List YI) : OB := xM (wH 0 8 prmO x.1) (wH 1 128 insO x.2)
theorem temO_G (t : Tem) : temO t = temG (t.params,t.code.map erY) := by
  unfold temO temG
  rw [← listO_map]
  rfl
theorem same_secs {a b : Mdl} (h : SameM a b) : sec1O a = sec1O b ∧ sec2O a = sec2O b ∧ sec3O a = sec3O b := by
  have f : ∀ l : List Tem,wH 0 16 temO l = wH 0 16 temG (l.map fun t => (t.params,t.code.map erY)) := fun l => by
    rw [← listO_map]
    exact congrArg (fun o => wH 0 16 o l) (funext temO_G)
  refine ⟨?_,?_,?_⟩
  · unfold sec1O
    rw [← listO_er (o := wJ) (er := erN) (fun _ => rfl),h.nodes,listO_er (o := wJ) (er := erN) (fun _ => rfl)]
  · unfold sec2O
    rw [f,f,h.temps]
  · unfold sec3O
    rw [← listO_er (o := staO) (er := erS) (fun _ => rfl),h.starts,listO_er (o := staO) (er := erS) (fun _ => rfl),h.chans]
theorem SameM.symm {a b : Mdl} (h : SameM a b) : SameM b a := ⟨h.nodes.symm,h.temps.symm,h.chans.symm,h.starts.symm⟩
theorem SameM.trans {a b c : Mdl} (h : SameM a b) (g : SameM b c) : SameM a c := ⟨h.nodes.trans g.nodes,h.temps.trans g.temps,h.chans.trans g.chans,h.starts.trans g.starts⟩
theorem SameM.refl (a : Mdl) : SameM a a := ⟨rfl,rfl,rfl,rfl⟩
theorem put_same {m m0 : Mdl} {s bs : List UInt8} {pl : Int} (ht : wZ s = .ok m0 bs pl) (h : SameM m m0) (hm : smallM m) : Ct Tryz.prog 9 #[.agg (vN m).toArray] [uK m] (wF (.tuple #[str s,.int .i64 0]) [uK m]) := by
  obtain ⟨x,y,z,rfl,⟨hx,hy,hz⟩,h1,h2,h3,_⟩ := taken_inv ht
  obtain ⟨e1,e2,e3⟩ := same_secs h
  have := put11_ok m hm (e1.trans h1) (e2.trans h2) (e3.trans h3) (by omega) (by omega) (by omega)
  unfold joinA at this
  rw [if_pos ⟨hx,hy,hz⟩] at this
  exact this
structure OneM (m : Mdl) (op : Int) : Prop where
  nodes : m.nodes.length = 1
  chans : m.chans = []
  starts : m.starts.length = 1
  nat : m.nat = [8]
  tat : m.tat = [12]
  cat : m.cat = []
  sat : m.sat = [19]
  temps : ∃ t y,m.temps = [t] ∧ t.params = [] ∧ t.code = [y] ∧ y.1 = ⟨op,0,0,0,0,[]⟩ ∧ t.at_ = [14]
theorem one_of_er {m : Mdl} {op : Int} (h : erM m = ⟨[⟨0,0,false,(0,0),[],no0⟩],no0,[⟨[],no0,[(⟨op,0,0,0,0,[]⟩,none,0)],no0,[14],no0⟩],no0,[],no0,[⟨0,[],no0⟩],no0,[8],no0,[12],no0,[],no0,[19],no0⟩) : OneM m op := by
  unfold erM at h
  simp only [Mdl.mk.injEq,true_and,and_true] at h
  obtain ⟨h1,h2,h3,h4,h5,h6,h7,h8⟩ := h
  refine ⟨by simpa using congrArg List.length h1,h3,by simpa using congrArg List.length h4,h5,h6,h7,h8,?_⟩
  have hl : m.temps.length = 1 := by simpa using congrArg List.length h2
  obtain ⟨t,ht⟩ := List.length_eq_one_iff.1 hl
  rw [ht] at h2 ⊢
  simp only [List.map_cons,List.map_nil,erT,List.cons.injEq,and_true,Tem.mk.injEq,true_and] at h2
  obtain ⟨g1,g2,g3⟩ := h2
  have hc : t.code.length = 1 := by simpa using congrArg List.length g2
  obtain ⟨y,hy⟩ := List.length_eq_one_iff.1 hc
  rw [hy] at g2
  simp only [List.map_cons,List.map_nil,erY,List.cons.injEq,and_true,Prod.mk.injEq,true_and] at g2
  exact ⟨t,y,rfl,g1,hy,g2,g3⟩
end Go.Proofs.YtickblndgihoeaaGreatDoor
