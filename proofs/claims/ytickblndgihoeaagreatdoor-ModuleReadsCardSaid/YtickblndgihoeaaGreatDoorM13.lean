/- Layer 9: the program reads an instruction. -/
import Derived.Test.YtickblndgihoeaaGreatDoorM12
set_option linter.unusedSimpArgs false
namespace Go.Proofs.YtickblndgihoeaaGreatDoor
open Go Go.Sp
noncomputable def uE (bs : List UInt8) (pl : Int) : RdR := match bs with
  | [] => vZ 3 pl [] pl
  | o :: t => if 24 < o.toNat then vZ 11 pl t (pl + 1)
    else if (xS (zQ o.toNat).1 o.toNat t (pl + 1)).c ≠ 0 then vZ (xS (zQ o.toNat).1 o.toNat t (pl + 1)).c (xS (zQ o.toNat).1 o.toNat t (pl + 1)).a (xS (zQ o.toNat).1 o.toNat t (pl + 1)).bs (xS (zQ o.toNat).1 o.toNat t (pl + 1)).pl
    else if bP (fitsP (zQ o.toNat).1 (xS (zQ o.toNat).1 o.toNat t (pl + 1)).x) = true then xS (zQ o.toNat).1 o.toNat t (pl + 1)
    else vZ 2 pl (xS (zQ o.toNat).1 o.toNat t (pl + 1)).bs (xS (zQ o.toNat).1 o.toNat t (pl + 1)).pl
theorem read_nil (pl : Int) : uE [] pl = vZ 3 pl [] pl := rfl
theorem read_cons (o : UInt8) (t : List UInt8) (pl : Int) : uE (o :: t) pl = if 24 < o.toNat then vZ 11 pl t (pl + 1)
    else if (xS (zQ o.toNat).1 o.toNat t (pl + 1)).c ≠ 0 then vZ (xS (zQ o.toNat).1 o.toNat t (pl + 1)).c (xS (zQ o.toNat).1 o.toNat t (pl + 1)).a (xS (zQ o.toNat).1 o.toNat t (pl + 1)).bs (xS (zQ o.toNat).1 o.toNat t (pl + 1)).pl
    else if bP (fitsP (zQ o.toNat).1 (xS (zQ o.toNat).1 o.toNat t (pl + 1)).x) = true then xS (zQ o.toNat).1 o.toNat t (pl + 1)
    else vZ 2 pl (xS (zQ o.toNat).1 o.toNat t (pl + 1)).bs (xS (zQ o.toNat).1 o.toNat t (pl + 1)).pl := rfl
theorem small_pl {most : Int} {k : Nat → RK} (hk : ∀ n bs pl,0 ≤ pl → (k n bs pl).pl + (k n bs pl).bs.length = pl + bs.length ∧ pl ≤ (k n bs pl).pl) (bs : List UInt8) (pl : Int) (h0 : 0 ≤ pl) : (vY most k bs pl).pl + (vY most k bs pl).bs.length = pl + bs.length ∧ pl ≤ (vY most k bs pl).pl := by
  have hu := uA_ok bs pl
  unfold vY
  split
  · simp only [vZ];omega
  · have := hk (smA bs pl most).1 (uA bs pl).rest (uA bs pl).pl (by omega)
    omega
theorem opt_pl {m : Int} {k : Int → RK} (hk : ∀ n bs pl,0 ≤ pl → (k n bs pl).pl + (k n bs pl).bs.length = pl + bs.length ∧ pl ≤ (k n bs pl).pl) (bs : List UInt8) (pl : Int) (h0 : 0 ≤ pl) : (optK m k bs pl).pl + (optK m k bs pl).bs.length = pl + bs.length ∧ pl ≤ (optK m k bs pl).pl := by
  by_cases h : m = -1
  · rw [optK_none h];exact hk _ _ _ h0
  · rw [optK_some h];exact small_pl (fun n => hk n) bs pl h0
theorem list_pl (m : Int) {k : List Nat → RK} (hk : ∀ n bs pl,0 ≤ pl → (k n bs pl).pl + (k n bs pl).bs.length = pl + bs.length ∧ pl ≤ (k n bs pl).pl) : ∀ (n : Nat) (acc : List Nat) (bs : List UInt8) (pl : Int),0 ≤ pl → (listK n m acc k bs pl).pl + (listK n m acc k bs pl).bs.length = pl + bs.length ∧ pl ≤ (listK n m acc k bs pl).pl := by
  intro n
  induction n with
  | zero => intro acc bs pl h;exact hk _ _ _ h
  | succ n ih => intro acc bs pl h;exact small_pl (fun z bs pl h => ih _ bs pl h) bs pl h
theorem oper_pl (r : Row) (o : Nat) (bs : List UInt8) (pl : Int) (h0 : 0 ≤ pl) : (xS r o bs pl).pl + (xS r o bs pl).bs.length = pl + bs.length ∧ pl ≤ (xS r o bs pl).pl := by
  unfold xS
  split
  · have hu := uA_ok bs pl
    split
    · simp only [vZ];omega
    · simp only;omega
  · refine opt_pl (fun b bs pl h => opt_pl (fun c bs pl h => opt_pl (fun d bs pl h => ?_) bs pl h) bs pl h) bs pl h0
    have hf : ∀ (l : List Nat) (bs : List UInt8) (pl : Int),0 ≤ pl → (finK o b c d l bs pl).pl + (finK o b c d l bs pl).bs.length = pl + bs.length ∧ pl ≤ (finK o b c d l bs pl).pl := fun l bs pl _ => ⟨rfl,Int.le_refl _⟩
    unfold manyK
    split
    · exact small_pl (fun n bs pl h => list_pl _ hf n [] bs pl h) bs pl h
    · exact list_pl _ hf _ [] bs pl h
theorem read_pl (bs : List UInt8) (pl : Int) (h0 : 0 ≤ pl) : (uE bs pl).pl + (uE bs pl).bs.length = pl + bs.length ∧ pl ≤ (uE bs pl).pl ∧ (bs ≠ [] → pl < (uE bs pl).pl) := by
  cases bs with
  | nil => simp [read_nil,vZ]
  | cons o t =>
    rw [read_cons]
    have h := oper_pl (zQ o.toNat).1 o.toNat t (pl + 1) (by omega)
    generalize xS (zQ o.toNat).1 o.toNat t (pl + 1) = R at *
    simp only [List.length_cons]
    split
    · simp only [vZ];omega
    · split
      · simp only [vZ];omega
      · split
        · omega
        · simp only [vZ];omega
theorem list_len (m : Int) (op : Nat) (b c d : Int) : ∀ (n : Nat) (acc : List Nat) (bs : List UInt8) (pl : Int),(listK n m acc (finK op b c d) bs pl).x.l.length ≤ acc.length + n := by
  intro n
  induction n with
  | zero => intro acc bs pl;simp [listK,finK,vI]
  | succ n ih =>
    intro acc bs pl
    simp only [listK,vY]
    split
    · simp [vZ,zeroI]
    · have := ih (acc ++ [(smA bs pl m).1]) (uA bs pl).rest (uA bs pl).pl
      rw [List.length_append,List.length_singleton] at this
      omega
theorem small_len {most : Int} {k : Nat → RK} {N : Nat} (hk : ∀ (n : Nat) (bs : List UInt8) (pl : Int),(n : Int) ≤ most → (k n bs pl).x.l.length ≤ N) (bs : List UInt8) (pl : Int) : (vY most k bs pl).x.l.length ≤ N := by
  unfold vY
  split
  · simp [vZ,zeroI]
  · rename_i h
    exact hk _ _ _ (sm_le (Classical.not_not.1 h))
theorem opt_len2 {m : Int} {k : Int → RK} {N : Nat} (hk : ∀ n bs pl,(k n bs pl).x.l.length ≤ N) (bs : List UInt8) (pl : Int) : (optK m k bs pl).x.l.length ≤ N := by
  by_cases h : m = -1
  · rw [optK_none h];exact hk _ _ _
  · rw [optK_some h];exact small_len (fun n bs pl _ => hk _ _ _) bs pl
theorem oper_len (r : Row) (hr : r.most ≤ 8 ∧ r.least ≤ 8) (o : Nat) (bs : List UInt8) (pl : Int) : (xS r o bs pl).x.l.length ≤ 8 := by
  unfold xS
  split
  · split
    · simp [vZ,zeroI]
    · simp
  · refine opt_len2 (fun b bs pl => opt_len2 (fun c bs pl => opt_len2 (fun d bs pl => ?_) bs pl) bs pl) bs pl
    unfold manyK
    split
    · exact small_len (fun n bs pl hn => Nat.le_trans (list_len _ o b c d n [] bs pl) (by simp;omega)) bs pl
    · exact Nat.le_trans (list_len _ o b c d _ [] bs pl) (by simp;omega)
theorem row_few {n : Nat} (h : n ≤ 24) : (zQ n).1.most ≤ 8 ∧ (zQ n).1.least ≤ 8 := by
  match n,h with
  | 0,_ => exact ⟨by decide,by decide⟩
  | 1,_ => exact ⟨by decide,by decide⟩
  | 2,_ => exact ⟨by decide,by decide⟩
  | 3,_ => exact ⟨by decide,by decide⟩
  | 4,_ => exact ⟨by decide,by decide⟩
  | 5,_ => exact ⟨by decide,by decide⟩
  | 6,_ => exact ⟨by decide,by decide⟩
  | 7,_ => exact ⟨by decide,by decide⟩
  | 8,_ => exact ⟨by decide,by decide⟩
  | 9,_ => exact ⟨by decide,by decide⟩
  | 10,_ => exact ⟨by decide,by decide⟩
  | 11,_ => exact ⟨by decide,by decide⟩
  | 12,_ => exact ⟨by decide,by decide⟩
  | 13,_ => exact ⟨by decide,by decide⟩
  | 14,_ => exact ⟨by decide,by decide⟩
  | 15,_ => exact ⟨by decide,by decide⟩
  | 16,_ => exact ⟨by decide,by decide⟩
  | 17,_ => exact ⟨by decide,by decide⟩
  | 18,_ => exact ⟨by decide,by decide⟩
  | 19,_ => exact ⟨by decide,by decide⟩
  | 20,_ => exact ⟨by decide,by decide⟩
  | 21,_ => exact ⟨by decide,by decide⟩
  | 22,_ => exact ⟨by decide,by decide⟩
  | 23,_ => exact ⟨by decide,by decide⟩
  | 24,_ => exact ⟨by decide,by decide⟩
  | k + 25,h => omega
theorem row_small {n : Nat} (h : n ≤ 24) : (zQ n).1.b ≤ 1000 ∧ (zQ n).1.c ≤ 1000 ∧ (zQ n).1.d ≤ 1000 ∧ (zQ n).1.l ≤ 1000 := by
  match n,h with
  | 0,_ => exact ⟨by decide,by decide,by decide,by decide⟩
  | 1,_ => exact ⟨by decide,by decide,by decide,by decide⟩
  | 2,_ => exact ⟨by decide,by decide,by decide,by decide⟩
  | 3,_ => exact ⟨by decide,by decide,by decide,by decide⟩
  | 4,_ => exact ⟨by decide,by decide,by decide,by decide⟩
  | 5,_ => exact ⟨by decide,by decide,by decide,by decide⟩
  | 6,_ => exact ⟨by decide,by decide,by decide,by decide⟩
  | 7,_ => exact ⟨by decide,by decide,by decide,by decide⟩
  | 8,_ => exact ⟨by decide,by decide,by decide,by decide⟩
  | 9,_ => exact ⟨by decide,by decide,by decide,by decide⟩
  | 10,_ => exact ⟨by decide,by decide,by decide,by decide⟩
  | 11,_ => exact ⟨by decide,by decide,by decide,by decide⟩
  | 12,_ => exact ⟨by decide,by decide,by decide,by decide⟩
  | 13,_ => exact ⟨by decide,by decide,by decide,by decide⟩
  | 14,_ => exact ⟨by decide,by decide,by decide,by decide⟩
  | 15,_ => exact ⟨by decide,by decide,by decide,by decide⟩
  | 16,_ => exact ⟨by decide,by decide,by decide,by decide⟩
  | 17,_ => exact ⟨by decide,by decide,by decide,by decide⟩
  | 18,_ => exact ⟨by decide,by decide,by decide,by decide⟩
  | 19,_ => exact ⟨by decide,by decide,by decide,by decide⟩
  | 20,_ => exact ⟨by decide,by decide,by decide,by decide⟩
  | 21,_ => exact ⟨by decide,by decide,by decide,by decide⟩
  | 22,_ => exact ⟨by decide,by decide,by decide,by decide⟩
  | 23,_ => exact ⟨by decide,by decide,by decide,by decide⟩
  | 24,_ => exact ⟨by decide,by decide,by decide,by decide⟩
  | k + 25,h => omega
theorem read_len (bs : List UInt8) (pl : Int) : (uE bs pl).x.l.length ≤ 8 := by
  cases bs with
  | nil => simp [read_nil,vZ,zeroI]
  | cons o t =>
    rw [read_cons]
    split
    · simp [vZ,zeroI]
    · rename_i h
      have hb : (zQ o.toNat).1.most ≤ 8 ∧ (zQ o.toNat).1.least ≤ 8 := row_few (by omega)
      have := oper_len (zQ o.toNat).1 hb o.toNat t (pl + 1)
      split
      · simp [vZ,zeroI]
      · split
        · exact this
        · simp [vZ,zeroI]
theorem ent_freeze {e sz n : Nat} {v : Value} {cs : List Value} {L : List HP} : Ent (yC e sz v n cs :: L) (Vw sz v n cs :: L) := fun _ _ hs => hs.swap.own_freeze.swap
theorem vw0 {L : List HP} : Ent L (Vw 1 (.slice none 0 0) 0 (ints []) :: L) := (uZ (e := 3)).trans ent_freeze
theorem own_cap {e sz : Nat} {v : Value} {n : Nat} {cs : List Value} : ∀ k,yC e sz v n cs k → ∃ p cap,v = .slice p n cap ∧ n ≤ cap := by
  rintro k ⟨_,⟨rfl,rfl⟩ | ⟨b,sp,cap,rfl,h,_⟩⟩
  · exact ⟨none,0,rfl,Nat.le_refl _⟩
  · exact ⟨_,cap,rfl,h⟩
section
variable {N : Nat} {rd : Option Nat} {E : Env} {D : List Deferred} {L : List HP} {Q : uF}
theorem uU {c : Code} {e sz : Nat} {v : Value} {n : Nat} {cs : List Value} (h : ∀ p cap,v = .slice p n cap → n ≤ cap → J Tryz.prog N rd c E D (Vw sz (.slice p n cap) n cs :: L) Q) : J Tryz.prog N rd c E D (yC e sz v n cs :: L) Q := by
  refine J_say own_cap (fun ⟨p,cap,hv,hc⟩ => ?_)
  subst hv
  exact xQ ent_freeze (h p cap rfl hc)
theorem JL_viewc {all : Array Oper} {i : Nat} {rest : List Oper} {e sz : Nat} {v : Value} {n : Nat} {cs : List Value} (h : ∀ p cap,v = .slice p n cap → n ≤ cap → JL Tryz.prog N rd all i rest E D (Vw sz (.slice p n cap) n cs :: L) Q) : JL Tryz.prog N rd all i rest E D (yC e sz v n cs :: L) Q := by
  refine JL_say own_cap (fun ⟨p,cap,hv,hc⟩ => ?_)
  subst hv
  exact JL_heap ent_freeze (h p cap rfl hc)
end
abbrev ReadQ (R : RdR) (q : Nat) : Ending → List HP → Prop := RetE (fun y : Value × Option Addr × Nat => R.x.l.length ≤ y.2.2) (fun y => .tuple #[.agg (insC R.x (.slice y.2.1 R.x.l.length y.2.2)).toArray,y.1]) (fun y => [Er y.1 R.c R.a,Vw 1 (.slice y.2.1 R.x.l.length y.2.2) R.x.l.length (ints R.x.l),RdB q R.bs R.pl])
attribute [local irreducible] callFunc Go.method J JL JO JR JR1 JRl Ct JG JM JM1 JW JW1 JQ JQ0 JS CtD xB zQ ints RdB DrB Er uA smA by8 xS fitsP tK
set_option maxRecDepth 8000 in
set_option maxHeartbeats 4000000 in
theorem read_c (q : Nat) (bs : List UInt8) (pl : Int) (hpl : 0 ≤ pl ∧ pl + bs.length ≤ 1000000) : Ct Tryz.prog 146 #[ptr q] [RdB q bs pl] (ReadQ (uE bs pl) q) := by
  have hp := place_B q bs pl
  have hb := byte_E q bs pl (by omega)
  refine yE (vs := [_]) Tryz.func146 rfl Tryz.ntmps146 (by simp) ?_
  cases bs with
  | nil =>
    simp only [byteA,wX] at hb
    rw [read_nil]
    unfold ReadQ vZ zeroI
    repeat (first|(first|refine zB ?_|refine zE ?_|refine zG ?_)|(first|((first|refine zA rfl ?_);first|refine yK rfl hb rfl (fun v _ => ?_)|refine zD rfl rfl ?_|refine zC rfl rfl ?_|refine zT rfl rfl rfl ?_|refine zS rfl (fun r => ?_)|refine zN rfl (hp) rfl ?_)))
    refine JL_front (Er v 3 pl) ?_
    refine JL_er (fun h0 h00 hv => absurd h0 (by decide)) (fun qf h0 hv => ?_)
    subst hv
    repeat (first|(first|refine zB ?_|refine zE ?_|refine zG ?_|refine zL rfl ?_|refine zV ?_)|(first|((first|refine zA rfl ?_);first|refine JOq (JQ_neIf1 rfl) rfl ?_|refine yG (cs := [.int .i64 0,.int .i64 0,.int .i64 0,.int .i64 0,.int .i64 0,.slice none 0 0]) rfl rfl rfl ?_|refine zD rfl rfl ?_|refine zC rfl rfl ?_|refine zO rfl rfl (by rfl) (by rfl) (by first | decide | simp [Value.oneCell']) rfl ?_)))
    exact ⟨rfl,_,res_ct rfl (yV rfl rfl) rfl,_,vw0.trans ((Ent.sel (K := [Ft qf 3 pl,Vw 1 (.slice none 0 0) 0 (ints []),RdB q [] pl])).trans (tH (by decide))),(xH qf,none,0),Nat.le_refl _,rfl,rfl⟩
  | cons o t =>
    simp only [byteA,wX] at hb
    have ho8 : o.toNat < 256 := o.toNat_lt
    rw [read_cons]
    by_cases h24 : 24 < o.toNat
    · rw [if_pos h24]
      unfold ReadQ vZ zeroI
      repeat (first|(first|refine zB ?_|refine zE ?_|refine zG ?_)|(first|((first|refine zA rfl ?_);first|refine yK rfl hb rfl (fun v _ => ?_)|refine zD rfl rfl ?_|refine zC rfl rfl ?_|refine zT rfl rfl rfl ?_|refine zS rfl (fun r => ?_)|refine zN rfl (hp) rfl ?_)))
      refine JL_front (Er v 0 0) ?_
      refine JL_er (fun h0 h00 hv => ?_) (fun qf h0 hv => absurd rfl h0)
      subst hv
      repeat (first|(first|refine zB ?_|refine zE ?_|refine zG ?_|refine zP ?_|refine zL rfl ?_|refine zJ rfl ?_|refine zV ?_)|(first|((first|refine zA rfl ?_);first|refine JOq (JQ_gtrT rfl rfl (by omega)) rfl ?_|refine JOq (uJ rfl) rfl ?_|refine JOq (yX (a := o.toNat) rfl (vF (by omega))) rfl ?_|refine yG (cs := [.int .i64 ((o.toNat : Nat) : Int),.int .i64 0,.int .i64 0,.int .i64 0,.int .i64 0,.slice none 0 0]) rfl rfl rfl ?_|refine yG (cs := [.int .i64 0,.int .i64 0,.int .i64 0,.int .i64 0,.int .i64 0,.slice none 0 0]) rfl rfl rfl ?_|refine yG (cs := [.int .i64 11,.int .i64 pl]) rfl rfl rfl ?_|refine zD rfl rfl ?_|refine zC rfl rfl ?_|refine zF rfl rfl ?_|refine zH rfl rfl ?_|refine yN rfl rfl (fun r => ?_)|refine zS rfl (fun r => ?_)|refine vD (by simp) rfl rfl ?_|refine zO rfl rfl (by rfl) (by rfl) (by first | decide | simp [Value.oneCell']) rfl ?_)))
      exact ⟨rfl,_,res_ct rfl (yV rfl rfl) rfl,_,vw0.trans ((Ent.sel (K := [Ft r 11 pl,Vw 1 (.slice none 0 0) 0 (ints []),RdB q t (pl + 1)])).trans (tH (by decide))),(xH r,none,0),Nat.le_refl _,rfl,rfl⟩
    · rw [if_neg h24]
      have hr := rows_c o.toNat (by omega)
      obtain ⟨s1,s2,s3,s4⟩ := row_small (n := o.toNat) (by omega)
      obtain ⟨s5,s6⟩ := row_few (n := o.toNat) (by omega)
      simp only [List.length_cons] at hpl
      have ho := fun n7 => operands_c (zQ o.toNat).1 s1 s2 s3 s4 s5 s6 q n7 o.toNat t (pl + 1) (by omega)
      have hlen := oper_len (zQ o.toNat).1 ⟨s5,s6⟩ o.toNat t (pl + 1)
      have hf := fun p cap hc => fits_c (zQ o.toNat).1 (xS (zQ o.toNat).1 o.toNat t (pl + 1)).x p cap hc (by omega)
      generalize xS (zQ o.toNat).1 o.toNat t (pl + 1) = R at *
      generalize fitsP (zQ o.toNat).1 R.x = FP at *
      unfold tK at hr ho hf
      unfold OpQ at ho
      repeat (first|(first|refine zB ?_|refine zE ?_|refine zG ?_)|(first|((first|refine zA rfl ?_);first|refine yK rfl hb rfl (fun v _ => ?_)|refine zD rfl rfl ?_|refine zC rfl rfl ?_|refine zT rfl rfl rfl ?_|refine zS rfl (fun r => ?_)|refine zN rfl (hp) rfl ?_)))
      revert r
      intro n2
      refine JL_front (Er v 0 0) ?_
      refine JL_er (fun h0 h00 hv => ?_) (fun qf h0 hv => absurd rfl h0)
      subst hv
      repeat (first|(first|refine zB ?_|refine zE ?_|refine zG ?_|refine zP ?_|refine zJ rfl ?_)|(first|((first|refine zA rfl ?_);first|refine JOq (JQ_gtrF rfl rfl (by omega)) rfl ?_|refine JOq (uJ rfl) rfl ?_|refine JOq (yX (a := o.toNat) rfl (vF (by omega))) rfl ?_|refine yG (cs := [.int .i64 ((o.toNat : Nat) : Int),.int .i64 0,.int .i64 0,.int .i64 0,.int .i64 0,.slice none 0 0]) rfl rfl rfl ?_|refine zD rfl rfl ?_|refine zC rfl rfl ?_|refine zF rfl rfl ?_|refine zH rfl rfl ?_|refine zU rfl (by rfl) rfl ?_|refine zT rfl rfl rfl ?_|refine zS rfl (fun r => ?_)|refine zO rfl rfl (by rfl) (by rfl) (by first | decide | simp [Value.oneCell']) rfl ?_|refine zR rfl (hr) rfl ?_)))
      rename_i n7
      revert r
      intro n8
      repeat (first|(first|refine zB ?_|refine zE ?_|refine zG ?_)|(first|((first|refine zA rfl ?_);first|refine yK rfl (ho n7) rfl (fun y hy => ?_)|refine zD rfl rfl ?_|refine zC rfl rfl ?_)))
      obtain ⟨v2,x,sv⟩ := y
      dsimp only at hy ⊢
      refine JL_front (Er v2 R.c R.a) ?_
      refine JL_er (fun h0 h00 hv => ?_) (fun qf h0 hv => ?_)
      · subst hv
        obtain rfl := hy h0
        rw [if_neg (by simpa using h0)]
        refine JL_front (yC 3 1 sv R.x.l.length (ints R.x.l)) ?_
        refine JL_viewc (fun p cap hv hc => ?_)
        subst hv
        by_cases hfit : FP
        · rw [if_pos (bP_t hfit).symm]
          have hf1 := hf p cap hc
          rw [show bP FP = true from (bP_t hfit).symm] at hf1
          unfold ReadQ
          repeat (first|(first|refine zB ?_|refine zE ?_|refine zG ?_|refine zP ?_|refine zJ rfl ?_|refine zV ?_)|(first|((first|refine zA rfl ?_);first|refine JOq (uJ rfl) rfl ?_|refine zO rfl rfl (by rfl) (by rfl) (by simp [Value.oneCell',insC]) rfl ?_|refine zC rfl rfl ?_|refine zU rfl (by rfl) rfl ?_|refine xD rfl rfl ?_|refine zR rfl (hf1) rfl ?_)))
          exact ⟨rfl,_,res_ct rfl (yV rfl rfl) rfl,_,by dsimp only;rw [h0,h00];exact (Ent.sel (K := [Vw 1 (.slice p R.x.l.length cap) R.x.l.length (ints R.x.l),RdB q R.bs R.pl])).trans er_none,(.nilIface,p,cap),hc,rfl,rfl⟩
        · rw [if_neg (by rw [← bP_f hfit];simp)]
          have hf1 := hf p cap hc
          rw [show bP FP = false from (bP_f hfit).symm] at hf1
          unfold ReadQ vZ zeroI
          repeat (first|(first|refine zB ?_|refine zE ?_|refine zG ?_|refine zP ?_|refine zL rfl ?_|refine zJ rfl ?_|refine zV ?_)|(first|((first|refine zA rfl ?_);first|refine JOq (uJ rfl) rfl ?_|refine yG (cs := [.int .i64 0,.int .i64 0,.int .i64 0,.int .i64 0,.int .i64 0,.slice none 0 0]) rfl rfl rfl ?_|refine yG (cs := [.int .i64 2,.int .i64 pl]) rfl rfl rfl ?_|refine zD rfl rfl ?_|refine zC rfl rfl ?_|refine zU rfl (by rfl) rfl ?_|refine xD rfl rfl ?_|refine yN rfl rfl (fun r => ?_)|refine vD (by simp) rfl rfl ?_|refine zO rfl rfl (by rfl) (by rfl) (by first | decide | simp [Value.oneCell']) rfl ?_|refine zR rfl (hf1) rfl ?_)))
          exact ⟨rfl,_,res_ct rfl (yV rfl rfl) rfl,_,vw0.trans ((Ent.sel (K := [Ft r 2 pl,Vw 1 (.slice none 0 0) 0 (ints []),RdB q R.bs R.pl])).trans (tH (by decide))),(xH r,none,0),Nat.le_refl _,rfl,rfl⟩
      · subst hv
        rw [if_pos h0]
        unfold ReadQ vZ zeroI
        repeat (first|(first|refine zB ?_|refine zE ?_|refine zG ?_|refine zL rfl ?_|refine zV ?_)|(first|((first|refine zA rfl ?_);first|refine JOq (JQ_neIf1 rfl) rfl ?_|refine yG (cs := [.int .i64 0,.int .i64 0,.int .i64 0,.int .i64 0,.int .i64 0,.slice none 0 0]) rfl rfl rfl ?_|refine zD rfl rfl ?_|refine zC rfl rfl ?_|refine zO rfl rfl (by rfl) (by rfl) (by first | decide | simp [Value.oneCell']) rfl ?_)))
        exact ⟨rfl,_,res_ct rfl (yV rfl rfl) rfl,_,vw0.trans ((Ent.sel (K := [Ft qf R.c R.a,Vw 1 (.slice none 0 0) 0 (ints []),RdB q R.bs R.pl])).trans (tH h0)),(xH qf,none,0),Nat.le_refl _,rfl,rfl⟩
end Go.Proofs.YtickblndgihoeaaGreatDoor
