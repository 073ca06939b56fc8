/- Layer 11: the document's cursor: end, node. -/
import Derived.Test.YtickblndgihoeaaGreatDoorM39
set_option linter.unusedSimpArgs false
namespace Go.Proofs.YtickblndgihoeaaGreatDoor
open Go Go.Sp
attribute [local irreducible] callFunc Go.method J JL JO JR JR1 JRl Ct JG JM JM1 JW JW1 JQ JQ0 JS CtD xB by8 DrB smA uA uM wO someR
theorem cend_no (c e : Nat) (k a : Int) (h : k ≠ 0) : Ct Tryz.prog 77 #[ptr c] [vU c e k a] (wF (uC k a) [vU c e k a]) := by
  have hb := cbad_t c e k a h
  refine yE (vs := [_]) Tryz.func77 rfl Tryz.ntmps77 (by simp) ?_
  repeat (first|(first|refine zB ?_|refine zE ?_|refine zG ?_|refine zP ?_|refine zJ rfl ?_|refine zV ?_)|(first|((first|refine zA rfl ?_);first|refine JOq (yQ rfl) rfl ?_|refine zO rfl rfl (by rfl) (by rfl) (by simp [Value.oneCell']) rfl ?_|refine xI rfl (by simp) rfl ?_|refine zD rfl rfl ?_|refine zF rfl rfl ?_|refine xD rfl rfl ?_|refine zS rfl (fun r => ?_)|refine zN rfl (hb) rfl ?_)))
  exact ⟨rfl,_,wT (cs := [.int .i64 k,.int .i64 a]) rfl rfl rfl,[vU c e k a],Ent.sel,rfl,rfl⟩
theorem cend_c (c e : Nat) (bs : List UInt8) (pl a : Int) : Ct Tryz.prog 77 #[ptr c] [vU c e 0 a,DrB e bs pl] (wF (uC (endA bs pl).1 (endA bs pl).2) [vU c e (endA bs pl).1 (endA bs pl).2,DrB e bs pl]) := by
  have hb := cbad_f c e a
  have d := dend_B e bs pl
  generalize (endA bs pl).1 = k at *
  generalize (endA bs pl).2 = q at *
  refine yE (vs := [_]) Tryz.func77 rfl Tryz.ntmps77 (by simp) ?_
  repeat (first|(first|refine zB ?_|refine zE ?_|refine zG ?_|refine zL rfl ?_|refine zV ?_)|(first|((first|refine zA rfl ?_);first|refine JOq (yQ rfl) rfl ?_|refine zO rfl rfl (by rfl) (by rfl) (by simp [Value.oneCell']) rfl ?_|refine JO_storeM (pre := [ptr e]) (old := [.int .i64 0,.int .i64 a]) (post := []) (vs := [.int .i64 k,.int .i64 q]) rfl rfl rfl rfl rfl rfl (by simp [Value.oneCell']) rfl ?_|refine xI (cs := [ptr e,.int .i64 k,.int .i64 q]) rfl (by simp) rfl ?_|refine zD rfl rfl ?_|refine zF rfl rfl ?_|refine zH rfl rfl ?_|refine xD rfl rfl ?_|refine zS rfl (fun r => ?_)|refine zN rfl (hb) rfl ?_|refine zN rfl (d) rfl ?_)))
  exact ⟨rfl,_,wT (cs := [.int .i64 k,.int .i64 q]) rfl rfl rfl,[vU c e k q,DrB e bs pl],(Ent.sel (K := [pt c (.cells ([ptr e] ++ ([.int .i64 k,.int .i64 q] : List Value) ++ []).toArray 143 (0,0)),DrB e bs pl])),rfl,rfl⟩
end Go.Proofs.YtickblndgihoeaaGreatDoor

/- Layer 11: the document's cursor,whatever its state: one contract for each of its small functions. -/
namespace Go.Proofs.YtickblndgihoeaaGreatDoor
open Go Go.Sp
def OneS {α : Type} (r : RO α) (x : α) (k q : Int) (b : List UInt8) (p : Int) : Prop := (k = 0 ∧ q = 0 ∧ (0 ≤ p ∧ p + b.length ≤ 1000000) ∧ r = .ok x b p) ∨ (k ≠ 0 ∧ r = .bad k q)
def GoodS (k q : Int) (b : List UInt8) (p : Int) : Prop := k = 0 → q = 0 ∧ 0 ≤ p ∧ p + b.length ≤ 1000000
def rdS {α : Type} (rd : Rdr α) (k q : Int) (b : List UInt8) (p : Int) : RO α := if k = 0 then rd b p else .bad k q
section
variable {α β : Type} {r : RO α} {x : α} {k q : Int} {b : List UInt8} {p : Int}
theorem OneS.good (h : OneS r x k q b p) : GoodS k q b p := fun h0 => by
  rcases h with ⟨_,h1,h2,_⟩ | ⟨h1,_⟩
  · exact ⟨h1,h2⟩
  · exact absurd h0 h1
theorem OneS.bind (h : OneS r x k q b p) (f : α → Rdr β) : r.bind f = rdS (f x) k q b p := by
  rcases h with ⟨h0,h1,h2,h3⟩ | ⟨h1,h2⟩
  · rw [h3,bind_ok];unfold rdS;rw [if_pos h0]
  · rw [h2,bind_bad];unfold rdS;rw [if_neg h1]
theorem rdS_bind (rd : Rdr α) (f : α → Rdr β) : rdS (fun b p => (rd b p).bind f) k q b p = (rdS rd k q b p).bind f := by
  unfold rdS
  split <;> rfl
theorem rdS_0 (rd : Rdr α) : rdS rd 0 q b p = rd b p := rfl
theorem rdS_no (rd : Rdr α) (h : k ≠ 0) : rdS rd k q b p = .bad k q := by unfold rdS;rw [if_neg h]
theorem GoodS.pure (h : GoodS k q b p) (x : α) : OneS (rdS (fun b p => .ok x b p) k q b p) x k q b p := by
  by_cases h0 : k = 0
  · subst h0
    exact .inl ⟨rfl,(h rfl).1,(h rfl).2,rfl⟩
  · exact .inr ⟨h0,by rw [rdS_no _ h0]⟩
theorem GoodS.no (h : k ≠ 0) : GoodS k q b p := fun h0 => absurd h0 h
theorem GoodS.ok (h : 0 ≤ p ∧ p + b.length ≤ 1000000) : GoodS 0 0 b p := fun _ => ⟨rfl,h⟩
theorem OneS.no (h : k ≠ 0) (rd : Rdr α) (x : α) {b' : List UInt8} {p' : Int} : OneS (rdS rd k q b p) x k q b' p' := .inr ⟨h,rdS_no rd h⟩
end
def LoopS {α β : Type} (r : RO (List α × List Int)) (rd : Rdr α) (er : β → α) (n i : Nat) (xs : List β) (ps : List Int) (k q : Int) (b : List UInt8) (p : Int) : Prop :=
  (i ≤ n ∧ xs.length = i ∧ ps.length = i) ∧ ((k = 0 ∧ q = 0 ∧ (0 ≤ p ∧ p + b.length ≤ 1000000) ∧ r = preR (xs.map er) ps (vB rd (n - i) b p)) ∨ (k ≠ 0 ∧ r = .bad k q))
section
variable {α β : Type} {r : RO (List α × List Int)} {rd : Rdr α} {er : β → α} {n i : Nat} {xs : List β} {ps : List Int} {k q : Int} {b : List UInt8} {p : Int}
theorem LoopS.start (hg : GoodS k q b p) (hr : r = rdS (vB rd n) k q b p) : LoopS r rd er n 0 [] [] k q b p := by
  refine ⟨⟨Nat.zero_le _,rfl,rfl⟩,?_⟩
  by_cases h0 : k = 0
  · subst h0
    exact .inl ⟨rfl,(hg rfl).1,(hg rfl).2,by rw [hr,rdS_0,Nat.sub_zero,List.map_nil,preR_nil]⟩
  · exact .inr ⟨h0,by rw [hr,rdS_no _ h0]⟩
theorem LoopS.good (h : LoopS r rd er n i xs ps k q b p) : GoodS k q b p := fun h0 => by
  rcases h.2 with ⟨_,h1,h2,_⟩ | ⟨h1,_⟩
  · exact ⟨h1,h2⟩
  · exact absurd h0 h1
theorem LoopS.step (h : LoopS r rd er n i xs ps 0 0 b p) (hi : i < n) {x : β} {b' : List UInt8} {p' : Int} (h1 : OneS (rd b p) (er x) k q b' p') : LoopS r rd er n (i + 1) (xs ++ [x]) (ps ++ [p]) k q b' p' := by
  obtain ⟨⟨a1,a2,a3⟩,h⟩ := h
  refine ⟨⟨hi,by simp [a2],by simp [a3]⟩,?_⟩
  rcases h with ⟨_,_,_,h2⟩ | ⟨h2,_⟩
  · obtain ⟨w,hw⟩ : ∃ w,n - i = w + 1 := ⟨n - i - 1,by omega⟩
    rw [hw] at h2
    rcases h1 with ⟨g1,g2,g3,g4⟩ | ⟨g1,g2⟩
    · refine .inl ⟨g1,g2,g3,?_⟩
      rw [h2,preR_ok g4,show n - (i + 1) = w by omega,List.map_append,List.map_singleton]
    · exact .inr ⟨g1,by rw [h2,preR_bad g2]⟩
  · exact absurd rfl h2
theorem LoopS.done (h : LoopS r rd er n i xs ps k q b p) (hd : k = 0 → n ≤ i) : OneS r (xs.map er,ps) k q b p := by
  rcases h.2 with ⟨h0,h1,h2,h3⟩ | ⟨h0,h1⟩
  · refine .inl ⟨h0,h1,h2,?_⟩
    rw [h3,show n - i = 0 by have := hd h0;omega]
    simp [preR,vB,RO.bind]
  · exact .inr ⟨h0,h1⟩
end
theorem sev_most {α : Type} {rd : Rdr α} (most : Int) (bs : List UInt8) (pl : Int) : vR 1 most rd bs pl = (someR most bs pl).bind (vB rd) := by
  unfold vR someR
  cases uM most bs pl with
  | bad c a => rfl
  | ok n b p =>
    rw [bind_ok,bind_ok]
    by_cases h : n = 0
    · subst h;rfl
    · rw [if_neg (by omega),if_neg h];rfl
theorem sev_any {α : Type} {rd : Rdr α} (most : Int) (bs : List UInt8) (pl : Int) : vR 0 most rd bs pl = (uM most bs pl).bind (vB rd) := by
  unfold vR
  cases uM most bs pl with
  | bad c a => rfl
  | ok n b p => rw [bind_ok,bind_ok,if_neg (by omega)]
theorem num_one {bs : List UInt8} {pl most : Int} (hpl : 0 ≤ pl ∧ pl + bs.length ≤ 1000000) : OneS (uM most bs pl) (smA bs pl most).1 (smA bs pl most).2.1 (smA bs pl most).2.2 (uA bs pl).rest (uA bs pl).pl ∧ ((smA bs pl most).1 : Int) ≤ max most 0 := by
  cases h : uM most bs pl with
  | bad k q =>
    obtain ⟨h1,h2⟩ := nsm_bad h
    rw [h2]
    exact ⟨.inr ⟨h1,rfl⟩,by simp only;omega⟩
  | ok n b p =>
    have g := uN _ _ _ _ _ _ h
    have := numR_le h
    obtain ⟨h1,rfl,rfl⟩ := nsm_ok h
    rw [h1]
    exact ⟨.inl ⟨rfl,rfl,by omega,rfl⟩,by simp only;omega⟩
abbrev CurU {α β : Type} (r : RO α) (c e : Nat) (er : β → α) (enc : β → Value) (R : β → HP) : Ending → List HP → Prop := RetE (fun z : β × Int × Int × List UInt8 × Int => OneS r (er z.1) z.2.1 z.2.2.1 z.2.2.2.1 z.2.2.2.2) (fun z => enc z.1) (fun z => [R z.1,vU c e z.2.1 z.2.2.1,DrB e z.2.2.2.1 z.2.2.2.2])
abbrev CurN {α β : Type} (r : RO α) (c e : Nat) (er : β → α) (φ : β → Prop) (enc : β → Value) : Ending → List HP → Prop := RetE (fun z : β × Int × Int × List UInt8 × Int => OneS r (er z.1) z.2.1 z.2.2.1 z.2.2.2.1 z.2.2.2.2 ∧ φ z.1) (fun z => enc z.1) (fun z => [vU c e z.2.1 z.2.2.1,DrB e z.2.2.2.1 z.2.2.2.2])
attribute [local irreducible] callFunc Go.method J JL JO JR JR1 JRl Ct JG JM JM1 JW JW1 JQ JQ0 JS CtD xB by8 DrB smA uA uM wO wholeR
theorem ct_more {f : FuncId} {args : Array Value} {L : List HP} {v : Value} {M : List HP} (A : HP) (h : Ct Tryz.prog f args L (wF v M)) : Ct Tryz.prog f args (L ++ [A]) (wF v (M ++ [A])) :=
  (h.frame [A]).mono fun _ _ ⟨_,⟨he,hL⟩,hM⟩ => ⟨he,by rw [hM,hL]⟩
theorem cnum_u (c e : Nat) (k q most : Int) (b : List UInt8) (p : Int) (hm : 0 ≤ most ∧ most ≤ 1000000) (hg : GoodS k q b p) : Ct Tryz.prog 73 #[ptr c,.int .i64 most] [vU c e k q,DrB e b p] (CurN (rdS (uM most) k q b p) c e id (fun n : Nat => (n : Int) ≤ most) (fun n => .int .i64 (n : Int))) := by
  by_cases h : k = 0
  · subst h
    obtain ⟨rfl,hb⟩ := hg rfl
    obtain ⟨h1,h2⟩ := num_one (most := most) hb
    exact (cnum_at c e b p 0 most hb hm.2 rfl).mono fun _ _ ⟨he,hL⟩ => ⟨((smA b p most).1,(smA b p most).2.1,(smA b p most).2.2,(uA b p).rest,(uA b p).pl),⟨h1,by simp only;omega⟩,he,hL⟩
  · exact (ct_more (DrB e b p) (cnum_no c e k q most h)).mono fun _ _ ⟨he,hL⟩ => ⟨(0,k,q,b,p),⟨OneS.no h _ _,by simp only;omega⟩,he,hL⟩
theorem csome_u (c e : Nat) (k q most : Int) (b : List UInt8) (p : Int) (hm : 0 ≤ most ∧ most ≤ 1000000) (hg : GoodS k q b p) : Ct Tryz.prog 128 #[ptr c,.int .i64 most] [vU c e k q,DrB e b p] (CurN (rdS (someR most) k q b p) c e id (fun n : Nat => (n : Int) ≤ most) (fun n => .int .i64 (n : Int))) := by
  by_cases h : k = 0
  · subst h
    obtain ⟨rfl,hb⟩ := hg rfl
    rw [rdS_0]
    cases h1 : someR most b p with
    | ok n b' p' =>
      have h2 : (n : Int) ≤ most ∧ p' + b'.length = p + b.length ∧ p ≤ p' := by
        unfold someR at h1
        obtain ⟨m,b1,p1,g1,g2⟩ := bind_inv h1
        split at g2
        · cases g2
        · cases g2
          have := uN _ _ _ _ _ _ g1
          have := numR_le g1
          omega
      exact (csome_ok c e 0 hb hm.2 h1).mono fun _ _ ⟨he,hL⟩ => ⟨(n,0,0,b',p'),⟨.inl ⟨rfl,rfl,by simp only;omega,rfl⟩,h2.1⟩,he,hL⟩
    | bad k' q' =>
      obtain ⟨h2,h3⟩ := csome_bad c e 0 hb hm.2 h1
      exact h3.mono fun _ _ ⟨he,hL⟩ => ⟨(0,k',q',(uA b p).rest,(uA b p).pl),⟨.inr ⟨h2,rfl⟩,by simp only;omega⟩,he,hL⟩
  · exact (csome_no c e b p k q most h).mono fun _ _ ⟨he,hL⟩ => ⟨(0,k,q,b,p),⟨OneS.no h _ _,by simp only;omega⟩,he,hL⟩
theorem ct_curN {α β : Type} {f : FuncId} {args : Array Value} {L : List HP} {c e : Nat} {er : β → α} {enc : β → Value} {r : RO α} (hgood : ∀ x b' p',r = .ok x b' p' → 0 ≤ p' ∧ p' + b'.length ≤ 1000000) (h : Ct Tryz.prog f args L (CurE r c e er enc (fun _ => Emp))) : Ct Tryz.prog f args L (CurN r c e er (fun _ => True) enc) :=
  Ct.postS h fun en L' h => fun F w hs => by
    cases r with
    | ok x b' p' =>
      obtain ⟨y,h1,h2,h3⟩ := h
      subst h3
      exact ⟨_,⟨(y,0,0,b',p'),⟨.inl ⟨rfl,rfl,hgood _ _ _ rfl,by rw [h1]⟩,trivial⟩,h2,rfl⟩,hs.swap.tail⟩
    | bad k q =>
      obtain ⟨y,b',p',h1,h2,h3⟩ := h
      subst h3
      exact ⟨_,⟨(y,k,q,b',p'),⟨.inr ⟨h1,rfl⟩,trivial⟩,h2,rfl⟩,hs.swap.tail⟩
theorem cedge_u (c e : Nat) (k q : Int) (b : List UInt8) (p : Int) (hg : GoodS k q b p) : Ct Tryz.prog 127 #[ptr c] [vU c e k q,DrB e b p] (CurN (rdS wO k q b p) c e id (fun _ => True) (fun y => .agg (yI y).toArray)) := by
  by_cases h : k = 0
  · subst h
    obtain ⟨rfl,hb⟩ := hg rfl
    exact ct_curN (fun x b' p' h1 => by have := good_edge _ _ _ _ _ h1;omega) (cedge_c c e b p 0 hb)
  · exact (ct_more (DrB e b p) (cedge_no c e k q h)).mono fun _ _ ⟨he,hL⟩ => ⟨((0,0),k,q,b,p),⟨OneS.no h _ _,trivial⟩,he,hL⟩
theorem ctyp_no (c e : Nat) (k a : Int) (h : k ≠ 0) : Ct Tryz.prog 79 #[ptr c] [vU c e k a] (wF (.agg (yI (0,0)).toArray) [vU c e k a]) := by
  have h1 := cnum_no c e k a 63 h
  have h2 := cnum_no c e k a 1000 h
  refine yE (vs := [_]) Tryz.func79 rfl Tryz.ntmps79 (by simp) ?_
  repeat (first|(first|refine zB ?_|refine zE ?_|refine zG ?_|refine zV ?_)|(first|((first|refine zA rfl ?_);first|refine yG (cs := yI (0,0)) rfl rfl rfl ?_|refine zO rfl rfl (by rfl) (by rfl) (by simp [Value.oneCell']) rfl ?_|refine zD rfl rfl ?_|refine zC rfl rfl ?_|refine zS rfl (fun r => ?_)|refine zN rfl (h1) rfl ?_|refine zN rfl (h2) rfl ?_)))
  exact ⟨rfl,_,wT (cs := yI (0,0)) rfl rfl rfl,[vU c e k a],Ent.sel,rfl,rfl⟩
theorem ctyp_u (c e : Nat) (k q : Int) (b : List UInt8) (p : Int) (hg : GoodS k q b p) : Ct Tryz.prog 79 #[ptr c] [vU c e k q,DrB e b p] (CurN (rdS wO k q b p) c e id (fun _ => True) (fun y => .agg (yI y).toArray)) := by
  by_cases h : k = 0
  · subst h
    obtain ⟨rfl,hb⟩ := hg rfl
    exact ct_curN (fun x b' p' h1 => by have := good_edge _ _ _ _ _ h1;omega) (ctyp_c c e b p 0 hb)
  · exact (ct_more (DrB e b p) (ctyp_no c e k q h)).mono fun _ _ ⟨he,hL⟩ => ⟨((0,0),k,q,b,p),⟨OneS.no h _ _,trivial⟩,he,hL⟩
theorem cwhole_u (c e : Nat) (k q : Int) (b : List UInt8) (p : Int) (hg : GoodS k q b p) : Ct Tryz.prog 130 #[ptr c] [vU c e k q,DrB e b p] (CurN (rdS wholeR k q b p) c e id (fun _ => True) (fun y => .int .i64 y)) := by
  by_cases h : k = 0
  · subst h
    obtain ⟨rfl,hb⟩ := hg rfl
    exact ct_curN (fun x b' p' h1 => by have := good_whole _ _ _ _ _ h1;omega) (cwhole_c c e b p 0 hb)
  · exact (ct_more (DrB e b p) (cwhole_no c e k q h)).mono fun _ _ ⟨he,hL⟩ => ⟨(0,k,q,b,p),⟨OneS.no h _ _,trivial⟩,he,hL⟩
end Go.Proofs.YtickblndgihoeaaGreatDoor
