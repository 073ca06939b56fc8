/- Layer 11: the document's cursor: bad, num, some, whole, edge, typ. -/
import Derived.Test.YtickblndgihoeaaGreatDoorM38
set_option linter.unusedSimpArgs false
namespace Go.Proofs.YtickblndgihoeaaGreatDoor
open Go Go.Sp
abbrev vU (c r : Nat) (k a : Int) : HP := pt c (.cells #[ptr r,.int .i64 k,.int .i64 a] 143 (0,0))
theorem nsm_bad {bs : List UInt8} {pl most c a : Int} (h : uM most bs pl = .bad c a) : c ≠ 0 ∧ smA bs pl most = (0,c,a) := by
  unfold uM at h
  split at h
  · rename_i h0
    cases h
    refine ⟨h0,?_⟩
    unfold smA at h0 ⊢
    split
    · rfl
    · split
      · rfl
      · rename_i h1 h2
        rw [if_neg h1,if_neg h2] at h0
        exact absurd rfl h0
  · cases h
theorem nsm_ok {bs bs' : List UInt8} {pl pl' most : Int} {n : Nat} (h : uM most bs pl = .ok n bs' pl') : smA bs pl most = (n,0,0) ∧ (uA bs pl).rest = bs' ∧ (uA bs pl).pl = pl' := by
  unfold uM at h
  split at h
  · cases h
  · rename_i h0
    cases h
    refine ⟨?_,rfl,rfl⟩
    have h0 : (smA bs pl most).2.1 = 0 := by simpa using h0
    unfold smA at h0 ⊢
    split
    · rename_i h1
      rw [if_pos h1] at h0
      exact absurd h0 h1
    · rename_i h1
      rw [if_neg h1] at h0
      split
      · rename_i h2
        rw [if_pos h2] at h0
        cases h0
      · rfl
attribute [local irreducible] callFunc Go.method J JL JO JR JR1 JRl Ct JG JM JM1 JW JW1 JQ JQ0 JS CtD xB by8 DrB smA uA uM
theorem cbad_t (c r : Nat) (k a : Int) (h : k ≠ 0) : Ct Tryz.prog 74 #[ptr c] [vU c r k a] (wF (.bool true) [vU c r k a]) := by
  refine yE (vs := [_]) Tryz.func74 rfl Tryz.ntmps74 (by simp) ?_
  repeat (first|(first|refine zB ?_|refine zE ?_|refine zG ?_|refine zV ?_)|(first|((first|refine zA rfl ?_);first|refine JOq (yQ rfl) rfl ?_|refine JOq (vS rfl rfl (by omega)) rfl ?_|refine zD rfl rfl ?_|refine zC rfl rfl ?_|refine zF rfl rfl ?_|refine JO_field rfl rfl ?_|refine zH rfl rfl ?_)))
  exact zY rfl rfl Ent.sel
theorem cbad_f (c r : Nat) (a : Int) : Ct Tryz.prog 74 #[ptr c] [vU c r 0 a] (wF (.bool false) [vU c r 0 a]) := by
  refine yE (vs := [_]) Tryz.func74 rfl Tryz.ntmps74 (by simp) ?_
  repeat (first|(first|refine zB ?_|refine zE ?_|refine zG ?_|refine zV ?_)|(first|((first|refine zA rfl ?_);first|refine JOq (yQ rfl) rfl ?_|refine JOq (vW rfl rfl (by omega)) rfl ?_|refine zD rfl rfl ?_|refine zC rfl rfl ?_|refine zF rfl rfl ?_|refine JO_field rfl rfl ?_|refine zH rfl rfl ?_)))
  exact zY rfl rfl Ent.sel
theorem cnum_no (c r : Nat) (k a most : Int) (h : k ≠ 0) : Ct Tryz.prog 73 #[ptr c,.int .i64 most] [vU c r k a] (wF (.int .i64 0) [vU c r k a]) := by
  have hb := cbad_t c r k a h
  refine yE (vs := [_,_]) Tryz.func73 rfl Tryz.ntmps73 (by simp) ?_
  repeat (first|(first|refine zB ?_|refine zE ?_|refine zG ?_|refine zL rfl ?_|refine zV ?_)|(first|((first|refine zA rfl ?_);first|refine zD rfl rfl ?_|refine zC rfl rfl ?_|refine zN rfl (hb) rfl ?_)))
  exact zY rfl rfl Ent.sel
theorem cnum_at (c e : Nat) (bs : List UInt8) (pl a most : Int) (hpl : 0 ≤ pl ∧ pl + bs.length ≤ 1000000) (hm : most ≤ 1000000) {n : Nat} {k q : Int} (hs : smA bs pl most = (n,k,q)) : Ct Tryz.prog 73 #[ptr c,.int .i64 most] [vU c e 0 a,DrB e bs pl] (wF (.int .i64 (n : Int)) [vU c e k q,DrB e (uA bs pl).rest (uA bs pl).pl]) := by
  have hb := cbad_f c e a
  have d := dsm_B e bs pl most hpl (by omega)
  rw [hs] at d
  dsimp only at d
  refine yE (vs := [_,_]) Tryz.func73 rfl Tryz.ntmps73 (by simp) ?_
  repeat (first|(first|refine zB ?_|refine zE ?_|refine zG ?_|refine zP ?_|refine zJ rfl ?_|refine zV ?_)|(first|((first|refine zA rfl ?_);first|refine JOq (yQ rfl) rfl ?_|refine zO rfl rfl (by rfl) (by rfl) (by simp [Value.oneCell']) rfl ?_|refine xI rfl (by simp) rfl ?_|refine JO_storeM (pre := [ptr e]) (old := [.int .i64 0,.int .i64 a]) (post := []) (vs := [.int .i64 k,.int .i64 q]) rfl rfl rfl rfl rfl rfl (by simp [Value.oneCell']) rfl ?_|refine zD rfl rfl ?_|refine zC rfl rfl ?_|refine zF rfl rfl ?_|refine zH rfl rfl ?_|refine zT rfl rfl rfl ?_|refine zS rfl (fun r => ?_)|refine zN rfl (hb) rfl ?_|refine zN rfl (d) rfl ?_)))
  exact zY rfl rfl (Ent.sel (K := [pt c (.cells ([ptr e] ++ ([.int .i64 k,.int .i64 q] : List Value) ++ []).toArray 143 (0,0)),DrB e (uA bs pl).rest (uA bs pl).pl]))
theorem cnum_ok (c e : Nat) {bs bs' : List UInt8} {pl pl' most : Int} {n : Nat} (a : Int) (hpl : 0 ≤ pl ∧ pl + bs.length ≤ 1000000) (hm : most ≤ 1000000) (h : uM most bs pl = .ok n bs' pl') : Ct Tryz.prog 73 #[ptr c,.int .i64 most] [vU c e 0 a,DrB e bs pl] (wF (.int .i64 (n : Int)) [vU c e 0 0,DrB e bs' pl']) := by
  obtain ⟨h1,rfl,rfl⟩ := nsm_ok h
  exact cnum_at c e bs pl a most hpl hm h1
theorem cnum_bad (c e : Nat) {bs : List UInt8} {pl most k q : Int} (a : Int) (hpl : 0 ≤ pl ∧ pl + bs.length ≤ 1000000) (hm : most ≤ 1000000) (h : uM most bs pl = .bad k q) : Ct Tryz.prog 73 #[ptr c,.int .i64 most] [vU c e 0 a,DrB e bs pl] (wF (.int .i64 0) [vU c e k q,DrB e (uA bs pl).rest (uA bs pl).pl]) :=
  cnum_at c e bs pl a most hpl hm (nsm_bad h).2
def CurE {α β : Type} (r : RO α) (c e : Nat) (er : β → α) (enc : β → Value) (R : β → HP) : Ending → List HP → Prop := fun en L => match r with
  | .ok x bs pl => ∃ y,er y = x ∧ en = .returned (enc y) ∧ L = [R y,vU c e 0 0,DrB e bs pl]
  | .bad k q => ∃ (y : β) (bs : List UInt8) (pl : Int),k ≠ 0 ∧ en = .returned (enc y) ∧ L = [R y,vU c e k q,DrB e bs pl]
def someR (most : Int) : Rdr Nat := fun bs pl => (uM most bs pl).bind fun n b p => if n = 0 then .bad 2 pl else .ok n b p
theorem csome_no (c e : Nat) (bs : List UInt8) (pl k a most : Int) (h : k ≠ 0) : Ct Tryz.prog 128 #[ptr c,.int .i64 most] [vU c e k a,DrB e bs pl] (wF (.int .i64 0) [vU c e k a,DrB e bs pl]) := by
  have hb := cbad_t c e k a h
  have hn := cnum_no c e k a most h
  have dp := dplace_B e bs pl
  refine yE (vs := [_,_]) Tryz.func128 rfl Tryz.ntmps128 (by simp) ?_
  repeat (first|(first|refine zB ?_|refine zE ?_|refine zG ?_|refine zP ?_|refine zJ rfl ?_|refine zV ?_)|(first|((first|refine zA rfl ?_);first|refine JOq (yQ rfl) rfl ?_|refine zD rfl rfl ?_|refine zC rfl rfl ?_|refine zF rfl rfl ?_|refine zH rfl rfl ?_|refine yJ rfl rfl rfl ?_|refine xD rfl rfl ?_|refine zN rfl (hb) rfl ?_|refine zN rfl (hn) rfl ?_|refine zN rfl (dp) rfl ?_)|refine yU rfl rfl rfl ?_))
  exact zY rfl rfl Ent.sel
theorem csome_ok (c e : Nat) {bs bs' : List UInt8} {pl pl' most : Int} {n : Nat} (a : Int) (hpl : 0 ≤ pl ∧ pl + bs.length ≤ 1000000) (hm : most ≤ 1000000) (h : someR most bs pl = .ok n bs' pl') : Ct Tryz.prog 128 #[ptr c,.int .i64 most] [vU c e 0 a,DrB e bs pl] (wF (.int .i64 (n : Int)) [vU c e 0 0,DrB e bs' pl']) := by
  unfold someR at h
  obtain ⟨n',b,p,h1,h2⟩ := bind_inv h
  split at h2
  · cases h2
  · rename_i h0
    cases h2
    have hb := cbad_f c e 0
    have hn := cnum_ok c e a hpl hm h1
    have dp := dplace_B e bs pl
    refine yE (vs := [_,_]) Tryz.func128 rfl Tryz.ntmps128 (by simp) ?_
    repeat (first|(first|refine zB ?_|refine zE ?_|refine zG ?_|refine zP ?_|refine zJ rfl ?_|refine zV ?_)|(first|((first|refine zA rfl ?_|refine zZ rfl rfl ?_);first|refine JOq (yQ rfl) rfl ?_|refine JOq (yL rfl rfl (by omega)) rfl ?_|refine zD rfl rfl ?_|refine zC rfl rfl ?_|refine zF rfl rfl ?_|refine zH rfl rfl ?_|refine yA rfl rfl rfl ?_|refine xD rfl rfl ?_|refine zN rfl (hb) rfl ?_|refine zN rfl (hn) rfl ?_|refine zN rfl (dp) rfl ?_)))
    exact zY rfl rfl Ent.sel
theorem csome_bad (c e : Nat) {bs : List UInt8} {pl most k q : Int} (a : Int) (hpl : 0 ≤ pl ∧ pl + bs.length ≤ 1000000) (hm : most ≤ 1000000) (h : someR most bs pl = .bad k q) : k ≠ 0 ∧ Ct Tryz.prog 128 #[ptr c,.int .i64 most] [vU c e 0 a,DrB e bs pl] (wF (.int .i64 0) [vU c e k q,DrB e (uA bs pl).rest (uA bs pl).pl]) := by
  unfold someR at h
  have dp := dplace_B e bs pl
  cases h1 : uM most bs pl with
  | bad k1 q1 =>
    rw [h1] at h
    cases h
    have hk := (nsm_bad h1).1
    have hn := cnum_bad c e a hpl hm h1
    have hb := cbad_t c e k q hk
    refine ⟨hk,yE (vs := [_,_]) Tryz.func128 rfl Tryz.ntmps128 (by simp) ?_⟩
    repeat (first|(first|refine zB ?_|refine zE ?_|refine zG ?_|refine zP ?_|refine zJ rfl ?_|refine zV ?_)|(first|((first|refine zA rfl ?_);first|refine JOq (yQ rfl) rfl ?_|refine zD rfl rfl ?_|refine zC rfl rfl ?_|refine zF rfl rfl ?_|refine zH rfl rfl ?_|refine yJ rfl rfl rfl ?_|refine xD rfl rfl ?_|refine zN rfl (hb) rfl ?_|refine zN rfl (hn) rfl ?_|refine zN rfl (dp) rfl ?_)|refine yU rfl rfl rfl ?_))
    exact zY rfl rfl Ent.sel
  | ok n b p =>
    rw [h1,bind_ok] at h
    split at h
    · rename_i h0
      subst h0
      cases h
      have hn := cnum_ok c e a hpl hm h1
      obtain ⟨_,g1,g2⟩ := nsm_ok h1
      rw [← g1,← g2] at hn
      have hb := cbad_f c e 0
      refine ⟨by decide,yE (vs := [_,_]) Tryz.func128 rfl Tryz.ntmps128 (by simp) ?_⟩
      repeat (first|(first|refine zB ?_|refine zE ?_|refine zG ?_|refine zL rfl ?_|refine zV ?_)|(first|((first|refine zA rfl ?_|refine zZ rfl rfl ?_);first|refine JOq (yQ rfl) rfl ?_|refine JOq (yT rfl rfl (by omega)) rfl ?_|refine yG (cs := [.int .i64 2,.int .i64 pl]) rfl rfl rfl ?_|refine JO_storeM (pre := [ptr e]) (old := [.int .i64 0,.int .i64 0]) (post := []) (vs := [.int .i64 2,.int .i64 pl]) rfl rfl rfl rfl rfl rfl (by simp [Value.oneCell']) rfl ?_|refine zD rfl rfl ?_|refine zC rfl rfl ?_|refine zF rfl rfl ?_|refine zH rfl rfl ?_|refine yA rfl rfl rfl ?_|refine xD rfl rfl ?_|refine zN rfl (hb) rfl ?_|refine zN rfl (hn) rfl ?_|refine zN rfl (dp) rfl ?_)))
      exact zY rfl rfl (Ent.sel (K := [pt c (.cells ([ptr e] ++ ([.int .i64 2,.int .i64 pl] : List Value) ++ []).toArray 143 (0,0)),DrB e (uA bs pl).rest (uA bs pl).pl]))
    · cases h
theorem cedge_no (c e : Nat) (k a : Int) (h : k ≠ 0) : Ct Tryz.prog 127 #[ptr c] [vU c e k a] (wF (.agg (yI (0,0)).toArray) [vU c e k a]) := by
  have h1 := cnum_no c e k a 63 h
  have h2 := cnum_no c e k a 1000 h
  refine yE (vs := [_]) Tryz.func127 rfl Tryz.ntmps127 (by simp) ?_
  repeat (first|(first|refine zB ?_|refine zE ?_|refine zG ?_|refine zV ?_)|(first|((first|refine zA rfl ?_);first|refine yG (cs := yI (0,0)) rfl rfl rfl ?_|refine zO rfl rfl (by rfl) (by rfl) (by simp [Value.oneCell']) rfl ?_|refine zD rfl rfl ?_|refine zC rfl rfl ?_|refine zS rfl (fun r => ?_)|refine zN rfl (h1) rfl ?_|refine zN rfl (h2) rfl ?_)))
  exact ⟨rfl,_,wT (cs := yI (0,0)) rfl rfl rfl,[vU c e k a],Ent.sel,rfl,rfl⟩
theorem cedge_c (c e : Nat) (bs : List UInt8) (pl a : Int) (hpl : 0 ≤ pl ∧ pl + bs.length ≤ 1000000) : Ct Tryz.prog 127 #[ptr c] [vU c e 0 a,DrB e bs pl] (CurE (wO bs pl) c e id (fun y => .agg (yI y).toArray) (fun _ => Emp)) := by
  cases h1 : uM 63 bs pl with
  | bad k q =>
    have hk := (nsm_bad h1).1
    have c1 := cnum_bad c e a hpl (by decide) h1
    have c2 := cnum_no c e k q 1000 hk
    have hr : wO bs pl = .bad k q := by unfold wO;rw [h1];rfl
    rw [hr]
    refine yE (vs := [_]) Tryz.func127 rfl Tryz.ntmps127 (by simp) ?_
    repeat (first|(first|refine zB ?_|refine zE ?_|refine zG ?_|refine zV ?_)|(first|((first|refine zA rfl ?_);first|refine yG (cs := yI (0,0)) rfl rfl rfl ?_|refine zO rfl rfl (by rfl) (by rfl) (by simp [Value.oneCell']) rfl ?_|refine zD rfl rfl ?_|refine zC rfl rfl ?_|refine zS rfl (fun r => ?_)|refine zN rfl (c1) rfl ?_|refine zN rfl (c2) rfl ?_)))
    exact ⟨rfl,_,wT (cs := yI (0,0)) rfl rfl rfl,[Emp,vU c e k q,DrB e (uA bs pl).rest (uA bs pl).pl],Ent.sel.trans emp_in,(0,0),_,_,hk,rfl,rfl⟩
  | ok n b p =>
    have g1 := uN _ _ _ _ _ _ h1
    have c1 := cnum_ok c e a hpl (by decide) h1
    cases h2 : uM 1000 b p with
    | bad k q =>
      have hk := (nsm_bad h2).1
      have c2 := cnum_bad c e 0 (by omega) (by decide) h2
      have hr : wO bs pl = .bad k q := by unfold wO;rw [h1,bind_ok,h2];rfl
      rw [hr]
      refine yE (vs := [_]) Tryz.func127 rfl Tryz.ntmps127 (by simp) ?_
      repeat (first|(first|refine zB ?_|refine zE ?_|refine zG ?_|refine zV ?_)|(first|((first|refine zA rfl ?_);first|refine yG (cs := yI ((n : Int),0)) rfl rfl rfl ?_|refine zO rfl rfl (by rfl) (by rfl) (by simp [Value.oneCell']) rfl ?_|refine zD rfl rfl ?_|refine zC rfl rfl ?_|refine zS rfl (fun r => ?_)|refine zN rfl (c1) rfl ?_|refine zN rfl (c2) rfl ?_)))
      exact ⟨rfl,_,wT (cs := yI ((n : Int),0)) rfl rfl rfl,[Emp,vU c e k q,DrB e (uA b p).rest (uA b p).pl],Ent.sel.trans emp_in,((n : Int),0),_,_,hk,rfl,rfl⟩
    | ok m b2 p2 =>
      have c2 := cnum_ok c e 0 (by omega) (by decide) h2
      have hr : wO bs pl = .ok ((n : Int),(m : Int)) b2 p2 := by unfold wO;rw [h1,bind_ok,h2];rfl
      rw [hr]
      refine yE (vs := [_]) Tryz.func127 rfl Tryz.ntmps127 (by simp) ?_
      repeat (first|(first|refine zB ?_|refine zE ?_|refine zG ?_|refine zV ?_)|(first|((first|refine zA rfl ?_);first|refine yG (cs := yI ((n : Int),(m : Int))) rfl rfl rfl ?_|refine zO rfl rfl (by rfl) (by rfl) (by simp [Value.oneCell']) rfl ?_|refine zD rfl rfl ?_|refine zC rfl rfl ?_|refine zS rfl (fun r => ?_)|refine zN rfl (c1) rfl ?_|refine zN rfl (c2) rfl ?_)))
      exact ⟨rfl,_,wT (cs := yI ((n : Int),(m : Int))) rfl rfl rfl,[Emp,vU c e 0 0,DrB e b2 p2],Ent.sel.trans emp_in,((n : Int),(m : Int)),rfl,rfl,rfl⟩
theorem ctyp_c (c e : Nat) (bs : List UInt8) (pl a : Int) (hpl : 0 ≤ pl ∧ pl + bs.length ≤ 1000000) : Ct Tryz.prog 79 #[ptr c] [vU c e 0 a,DrB e bs pl] (CurE (wO bs pl) c e id (fun y => .agg (yI y).toArray) (fun _ => Emp)) := by
  cases h1 : uM 63 bs pl with
  | bad k q =>
    have hk := (nsm_bad h1).1
    have c1 := cnum_bad c e a hpl (by decide) h1
    have c2 := cnum_no c e k q 1000 hk
    have hr : wO bs pl = .bad k q := by unfold wO;rw [h1];rfl
    rw [hr]
    refine yE (vs := [_]) Tryz.func79 rfl Tryz.ntmps79 (by simp) ?_
    repeat (first|(first|refine zB ?_|refine zE ?_|refine zG ?_|refine zV ?_)|(first|((first|refine zA rfl ?_);first|refine yG (cs := yI (0,0)) rfl rfl rfl ?_|refine zO rfl rfl (by rfl) (by rfl) (by simp [Value.oneCell']) rfl ?_|refine zD rfl rfl ?_|refine zC rfl rfl ?_|refine zS rfl (fun r => ?_)|refine zN rfl (c1) rfl ?_|refine zN rfl (c2) rfl ?_)))
    exact ⟨rfl,_,wT (cs := yI (0,0)) rfl rfl rfl,[Emp,vU c e k q,DrB e (uA bs pl).rest (uA bs pl).pl],Ent.sel.trans emp_in,(0,0),_,_,hk,rfl,rfl⟩
  | ok n b p =>
    have g1 := uN _ _ _ _ _ _ h1
    have c1 := cnum_ok c e a hpl (by decide) h1
    cases h2 : uM 1000 b p with
    | bad k q =>
      have hk := (nsm_bad h2).1
      have c2 := cnum_bad c e 0 (by omega) (by decide) h2
      have hr : wO bs pl = .bad k q := by unfold wO;rw [h1,bind_ok,h2];rfl
      rw [hr]
      refine yE (vs := [_]) Tryz.func79 rfl Tryz.ntmps79 (by simp) ?_
      repeat (first|(first|refine zB ?_|refine zE ?_|refine zG ?_|refine zV ?_)|(first|((first|refine zA rfl ?_);first|refine yG (cs := yI ((n : Int),0)) rfl rfl rfl ?_|refine zO rfl rfl (by rfl) (by rfl) (by simp [Value.oneCell']) rfl ?_|refine zD rfl rfl ?_|refine zC rfl rfl ?_|refine zS rfl (fun r => ?_)|refine zN rfl (c1) rfl ?_|refine zN rfl (c2) rfl ?_)))
      exact ⟨rfl,_,wT (cs := yI ((n : Int),0)) rfl rfl rfl,[Emp,vU c e k q,DrB e (uA b p).rest (uA b p).pl],Ent.sel.trans emp_in,((n : Int),0),_,_,hk,rfl,rfl⟩
    | ok m b2 p2 =>
      have c2 := cnum_ok c e 0 (by omega) (by decide) h2
      have hr : wO bs pl = .ok ((n : Int),(m : Int)) b2 p2 := by unfold wO;rw [h1,bind_ok,h2];rfl
      rw [hr]
      refine yE (vs := [_]) Tryz.func79 rfl Tryz.ntmps79 (by simp) ?_
      repeat (first|(first|refine zB ?_|refine zE ?_|refine zG ?_|refine zV ?_)|(first|((first|refine zA rfl ?_);first|refine yG (cs := yI ((n : Int),(m : Int))) rfl rfl rfl ?_|refine zO rfl rfl (by rfl) (by rfl) (by simp [Value.oneCell']) rfl ?_|refine zD rfl rfl ?_|refine zC rfl rfl ?_|refine zS rfl (fun r => ?_)|refine zN rfl (c1) rfl ?_|refine zN rfl (c2) rfl ?_)))
      exact ⟨rfl,_,wT (cs := yI ((n : Int),(m : Int))) rfl rfl rfl,[Emp,vU c e 0 0,DrB e b2 p2],Ent.sel.trans emp_in,((n : Int),(m : Int)),rfl,rfl,rfl⟩
theorem cwhole_no (c e : Nat) (k a : Int) (h : k ≠ 0) : Ct Tryz.prog 130 #[ptr c] [vU c e k a] (wF (.int .i64 0) [vU c e k a]) := by
  have hb := cbad_t c e k a h
  refine yE (vs := [_]) Tryz.func130 rfl Tryz.ntmps130 (by simp) ?_
  repeat (first|(first|refine zB ?_|refine zE ?_|refine zG ?_|refine zL rfl ?_|refine zV ?_)|(first|((first|refine zA rfl ?_);first|refine zD rfl rfl ?_|refine zC rfl rfl ?_|refine zN rfl (hb) rfl ?_)))
  exact zY rfl rfl Ent.sel
theorem cwhole_c (c e : Nat) (bs : List UInt8) (pl a : Int) (hpl : 0 ≤ pl ∧ pl + bs.length ≤ 1000000) : Ct Tryz.prog 130 #[ptr c] [vU c e 0 a,DrB e bs pl] (CurE (wholeR bs pl) c e id (fun z => .int .i64 z) (fun _ => Emp)) := by
  have hb := cbad_f c e a
  have d := ds_B e bs pl hpl
  have hw : wholeR bs pl = if (uA bs pl).c ≠ 0 then .bad (uA bs pl).c (uA bs pl).a else .ok (uB (uA bs pl).n) (uA bs pl).rest (uA bs pl).pl := rfl
  rw [hw]
  have ha : (uA bs pl).c = 0 → (uA bs pl).a = 0 := fun h => uA_a bs pl h
  generalize (uA bs pl).c = k at *
  generalize (uA bs pl).a = q at *
  generalize (uA bs pl).n = n at *
  generalize (uA bs pl).rest = b2 at *
  generalize (uA bs pl).pl = p2 at *
  refine yE (vs := [_]) Tryz.func130 rfl Tryz.ntmps130 (by simp) ?_
  repeat (first|(first|refine zB ?_|refine zE ?_|refine zG ?_|refine zP ?_|refine zJ rfl ?_|refine zV ?_)|(first|((first|refine zA rfl ?_);first|refine JOq (yQ rfl) rfl ?_|refine zO rfl rfl (by rfl) (by rfl) (by simp [Value.oneCell']) rfl ?_|refine xI rfl (by simp) rfl ?_|refine JO_storeM (pre := [ptr e]) (old := [.int .i64 0,.int .i64 a]) (post := []) (vs := [.int .i64 k,.int .i64 q]) rfl rfl rfl rfl rfl rfl (by simp [Value.oneCell']) rfl ?_|refine zD rfl rfl ?_|refine zC rfl rfl ?_|refine zF rfl rfl ?_|refine zH rfl rfl ?_|refine zT rfl rfl rfl ?_|refine zS rfl (fun r => ?_)|refine zN rfl (hb) rfl ?_|refine zN rfl (d) rfl ?_)))
  refine ⟨rfl,_,res_one rfl rfl,[Emp,pt c (.cells ([ptr e] ++ ([.int .i64 k,.int .i64 q] : List Value) ++ []).toArray 143 (0,0)),DrB e b2 p2],Ent.sel.trans emp_in,?_⟩
  by_cases hk : k = 0
  · obtain rfl := ha hk
    subst hk
    exact ⟨uB n,rfl,rfl,rfl⟩
  · rw [if_pos hk]
    exact ⟨uB n,b2,p2,hk,rfl,rfl⟩
end Go.Proofs.YtickblndgihoeaaGreatDoor
