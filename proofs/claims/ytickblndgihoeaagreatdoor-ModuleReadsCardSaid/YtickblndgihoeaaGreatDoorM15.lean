/- Layer 9: the document reads an instruction. -/
import Derived.Test.YtickblndgihoeaaGreatDoorM13
import Derived.Test.YtickblndgihoeaaGreatDoorM14
set_option linter.unusedSimpArgs false
namespace Go.Proofs.YtickblndgihoeaaGreatDoor
open Go Go.Sp
abbrev DReadQ (R : RdR) (d : Nat) : Ending → List HP → Prop := RetE (fun y : Option Addr × Nat => R.x.l.length ≤ y.2) (fun y => .tuple #[.agg (insC R.x (.slice y.1 R.x.l.length y.2)).toArray,uC R.c R.a]) (fun y => [Vw 1 (.slice y.1 R.x.l.length y.2) R.x.l.length (ints R.x.l),DrB d R.bs R.pl])
theorem oper_a {r : Row} {o : Nat} {bs : List UInt8} {pl : Int} : (xS r o bs pl).c = 0 → (xS r o bs pl).a = 0 := by
  have hs : ∀ (most : Int) (k : Nat → RK),(∀ n bs pl,(k n bs pl).c = 0 → (k n bs pl).a = 0) → ∀ bs pl,(vY most k bs pl).c = 0 → (vY most k bs pl).a = 0 := fun most k hk bs pl => by
    unfold vY
    split
    · rename_i h;intro h2;exact absurd h2 h
    · exact hk _ _ _
  have ho : ∀ (m : Int) (k : Int → RK),(∀ n bs pl,(k n bs pl).c = 0 → (k n bs pl).a = 0) → ∀ bs pl,(optK m k bs pl).c = 0 → (optK m k bs pl).a = 0 := fun m k hk bs pl => by
    by_cases h : m = -1
    · rw [optK_none h];exact hk _ _ _
    · rw [optK_some h];exact hs _ _ (fun n => hk n) bs pl
  have hl : ∀ (m : Int) (k : List Nat → RK),(∀ n bs pl,(k n bs pl).c = 0 → (k n bs pl).a = 0) → ∀ n acc bs pl,(listK n m acc k bs pl).c = 0 → (listK n m acc k bs pl).a = 0 := fun m k hk n => by
    induction n with
    | zero => intro acc bs pl;exact hk _ _ _
    | succ n ih => intro acc bs pl;exact hs _ _ (fun z bs pl => ih _ bs pl) bs pl
  unfold xS
  split
  · split
    · rename_i h;intro h2;exact absurd h2 h
    · intro _;rfl
  · refine ho _ _ (fun b => ho _ _ (fun c => ho _ _ (fun d bs pl => ?_))) bs pl
    unfold manyK
    split
    · exact hs _ _ (fun n bs pl => hl _ _ (fun _ _ _ _ => rfl) n [] bs pl) bs pl
    · exact hl _ _ (fun _ _ _ _ => rfl) _ [] bs pl
theorem oper_op {n : Nat} {bs : List UInt8} {pl : Int} : (xS (zQ n).1 n bs pl).c = 0 → (xS (zQ n).1 n bs pl).x.op = (n : Int) := by
  have hs : ∀ (most : Int) (k : Nat → RK),(∀ m bs pl,(k m bs pl).c = 0 → (k m bs pl).x.op = (n : Int)) → ∀ bs pl,(vY most k bs pl).c = 0 → (vY most k bs pl).x.op = (n : Int) := fun most k hk bs pl => by
    unfold vY
    split
    · rename_i h;intro h2;exact absurd h2 h
    · exact hk _ _ _
  have ho : ∀ (m : Int) (k : Int → RK),(∀ z bs pl,(k z bs pl).c = 0 → (k z bs pl).x.op = (n : Int)) → ∀ bs pl,(optK m k bs pl).c = 0 → (optK m k bs pl).x.op = (n : Int) := fun m k hk bs pl => by
    by_cases h : m = -1
    · rw [optK_none h];exact hk _ _ _
    · rw [optK_some h];exact hs _ _ (fun n => hk n) bs pl
  have hl : ∀ (m : Int) (k : List Nat → RK),(∀ z bs pl,(k z bs pl).c = 0 → (k z bs pl).x.op = (n : Int)) → ∀ c acc bs pl,(listK c m acc k bs pl).c = 0 → (listK c m acc k bs pl).x.op = (n : Int) := fun m k hk c => by
    induction c with
    | zero => intro acc bs pl;exact hk _ _ _
    | succ c ih => intro acc bs pl;exact hs _ _ (fun z bs pl => ih _ bs pl) bs pl
  unfold xS
  split
  · split
    · rename_i h;intro h2;exact absurd h2 h
    · intro _;rfl
  · refine ho _ _ (fun b => ho _ _ (fun c => ho _ _ (fun d bs pl => ?_))) bs pl
    unfold manyK
    split
    · exact hs _ _ (fun n bs pl => hl _ _ (fun _ _ _ _ => rfl) n [] bs pl) bs pl
    · exact hl _ _ (fun _ _ _ _ => rfl) _ [] bs pl
theorem ins_one {x : Ins} {v : Value} (h : v.oneCell' = true) : ∀ u ∈ insC x v,u.oneCell' = true := by
  intro u hu
  simp only [insC,List.mem_cons,List.not_mem_nil,or_false] at hu
  rcases hu with rfl | rfl | rfl | rfl | rfl | rfl <;> first | rfl|exact h
attribute [local irreducible] callFunc Go.method J JL JO JR JR1 JRl Ct JG JM JM1 JW JW1 JQ JQ0 JS CtD xB zQ ints RdB DrB Er uA smA by8 xS fitsP tK
set_option maxRecDepth 8000 in
set_option maxHeartbeats 4000000 in
theorem dread_c (d : Nat) (bs : List UInt8) (pl : Int) (hpl : 0 ≤ pl ∧ pl + bs.length ≤ 1000000) : Ct Tryz.prog 129 #[ptr d] [DrB d bs pl] (DReadQ (uE bs pl) d) := by
  have hp := dplace_B d bs pl
  have hb := dbyte_B d bs pl
  refine yE (vs := [_]) Tryz.func129 rfl Tryz.ntmps129 (by simp) ?_
  cases bs with
  | nil =>
    simp only [byteA,wX] at hb
    rw [read_nil]
    unfold DReadQ vZ zeroI
    repeat (first|(first|refine zB ?_|refine zE ?_|refine zG ?_|refine zL rfl ?_)|(first|((first|refine zA rfl ?_);first|refine JOq (vS rfl rfl (by omega)) rfl ?_|refine zD rfl rfl ?_|refine zC rfl rfl ?_|refine zF rfl rfl ?_|refine zH rfl rfl ?_|refine zT rfl rfl rfl ?_|refine zS rfl (fun r => ?_)|refine zO rfl rfl (by rfl) (by rfl) (by first | decide | simp [Value.oneCell']) rfl ?_|refine zN rfl (hp) rfl ?_|refine zN rfl (hb) rfl ?_)))
    refine tG none [] Ent.nil ?_
    repeat' (first|refine JW_fin rfl ?_|refine JW_only rfl ?_|refine JW_two rfl ?_ ?_|refine vV rfl rfl (yG (cs := [.int .i64 0,.int .i64 0,.int .i64 0,.int .i64 0,.int .i64 0,.slice none 0 0]) rfl rfl rfl ⟨by first|exact (fun _ => Ent.sel),?_⟩)|refine vV rfl rfl (zU rfl (by rfl) rfl ⟨by first|exact (fun _ => Ent.sel),?_⟩)|refine vV rfl rfl (zO rfl rfl (by rfl) (by rfl) (by simp [Value.oneCell']) rfl ⟨by first|exact (fun _ => Ent.sel),?_⟩))
    all_goals (refine zV ?_;exact ⟨rfl,_,uO rfl (yV rfl rfl) (yV rfl rfl),_,vw0.trans (Ent.sel (K := [Vw 1 (.slice none 0 0) 0 (ints []),DrB d [] pl])),(none,0),Nat.le_refl _,rfl,rfl⟩)
  | cons o t =>
    simp only [byteA,wX] at hb
    have ho8 : o.toNat < 256 := o.toNat_lt
    rw [read_cons]
    by_cases h24 : 24 < o.toNat
    · rw [if_pos h24]
      unfold DReadQ vZ zeroI
      repeat (first|(first|refine zB ?_|refine zE ?_|refine zG ?_|refine zP ?_|refine zL rfl ?_|refine zJ rfl ?_|refine zV ?_)|(first|((first|refine zA rfl ?_);first|refine JOq (JQ_gtrT rfl rfl (by omega)) rfl ?_|refine JOq (vW rfl rfl (by omega)) rfl ?_|refine JOq (yX (a := o.toNat) rfl (vF (by omega))) rfl ?_|refine yG (cs := [.int .i64 0,.int .i64 0,.int .i64 0,.int .i64 0,.int .i64 0,.slice none 0 0]) rfl rfl rfl ?_|refine yG (cs := [.int .i64 11,.int .i64 pl]) rfl rfl rfl ?_|refine zD rfl rfl ?_|refine zC rfl rfl ?_|refine zF rfl rfl ?_|refine zH rfl rfl ?_|refine zT rfl rfl rfl ?_|refine zS rfl (fun r => ?_)|refine zO rfl rfl (by rfl) (by rfl) (by first | decide | simp [Value.oneCell']) rfl ?_|refine zN rfl (hp) rfl ?_|refine zN rfl (hb) rfl ?_)))
      exact ⟨rfl,_,uO rfl (yV rfl rfl) (yV rfl rfl),_,vw0.trans (Ent.sel (K := [Vw 1 (.slice none 0 0) 0 (ints []),DrB d t (pl + 1)])),(none,0),Nat.le_refl _,rfl,rfl⟩
    · rw [if_neg h24]
      simp only [List.length_cons] at hpl
      obtain ⟨s5,s6⟩ := row_few (n := o.toNat) (by omega)
      have ho := doperands_c d o.toNat (by omega) t (pl + 1) (by omega)
      have hlen := oper_len (zQ o.toNat).1 ⟨s5,s6⟩ o.toNat t (pl + 1)
      have hoa := oper_a (r := (zQ o.toNat).1) (o := o.toNat) (bs := t) (pl := pl + 1)
      have hop := oper_op (n := o.toNat) (bs := t) (pl := pl + 1)
      have hk := fun p cap hc => dcheck_c (xS (zQ o.toNat).1 o.toNat t (pl + 1)).x p cap hc (by omega)
      have hok : (xS (zQ o.toNat).1 o.toNat t (pl + 1)).c = 0 → fitsP (zQ o.toNat).1 (xS (zQ o.toNat).1 o.toNat t (pl + 1)).x → chkA (xS (zQ o.toNat).1 o.toNat t (pl + 1)).x = 0 := fun h => chk_ok (hop h) (by omega)
      have hbad : (xS (zQ o.toNat).1 o.toNat t (pl + 1)).c = 0 → ¬ fitsP (zQ o.toNat).1 (xS (zQ o.toNat).1 o.toNat t (pl + 1)).x → chkA (xS (zQ o.toNat).1 o.toNat t (pl + 1)).x = 2 := fun h => chk_bad (hop h) (by omega)
      unfold DoQ at ho
      generalize xS (zQ o.toNat).1 o.toNat t (pl + 1) = R at *
      generalize fitsP (zQ o.toNat).1 R.x = FP at *
      rcases R with ⟨x,c,a,bs2,pl2⟩
      dsimp only at *
      by_cases h0 : c = 0
      · subst h0
        obtain rfl := hoa rfl
        rw [if_neg (by simp)]
        repeat (first|(first|refine zB ?_|refine zE ?_|refine zG ?_|refine zP ?_|refine zJ rfl ?_)|(first|((first|refine zA rfl ?_);first|refine JOq (JQ_gtrF rfl rfl (by omega)) rfl ?_|refine JOq (vW rfl rfl (by omega)) rfl ?_|refine JOq (yX (a := o.toNat) rfl (vF (by omega))) rfl ?_|refine yK rfl ho rfl (fun y hy => ?_)|refine zO rfl rfl (by rfl) (by rfl) (ins_one hy.1) rfl ?_|refine zD rfl rfl ?_|refine zC rfl rfl ?_|refine zF rfl rfl ?_|refine zH rfl rfl ?_|refine zU rfl (by rfl) rfl ?_|refine zT rfl rfl rfl ?_|refine zS rfl (fun r => ?_)|refine zO rfl rfl (by rfl) (by rfl) (by first | decide | simp [Value.oneCell']) rfl ?_|refine zN rfl (hp) rfl ?_|refine zN rfl (hb) rfl ?_)))
        obtain ⟨y,sv⟩ := y
        dsimp only at hy ⊢
        obtain ⟨hsv,hy⟩ := hy
        obtain rfl := hy rfl
        refine JL_front (yC 3 1 sv y.l.length (ints y.l)) ?_
        refine JL_viewc (fun p cap hv hc => ?_)
        subst hv
        have hk1 := hk p cap hc
        by_cases hfit : FP
        · rw [if_pos (bP_t hfit).symm]
          rw [hok rfl hfit] at hk1
          unfold DReadQ
          repeat (first|(first|refine zE ?_|refine zG ?_|refine zP ?_|refine zJ rfl ?_)|(first|((first|refine zA rfl ?_);first|refine JOq (vW rfl rfl (by omega)) rfl ?_|refine zR rfl (hk1) rfl ?_)))
          refine tG none [] Ent.nil ?_
          repeat' (first|refine JW_fin rfl ?_|refine JW_only rfl ?_|refine JW_two rfl ?_ ?_|refine vV rfl rfl (zU rfl (by rfl) rfl ⟨by first|exact (fun _ => Ent.sel),?_⟩)|refine vV rfl rfl (zO rfl rfl (by rfl) (by rfl) (by simp [Value.oneCell',insC]) rfl ⟨by first|exact (fun _ => Ent.sel),?_⟩))
          all_goals (refine zV ?_;exact ⟨rfl,_,uO rfl (yV rfl rfl) (yV rfl rfl),_,Ent.sel (K := [Vw 1 (.slice p y.l.length cap) y.l.length (ints y.l),DrB d bs2 pl2]),(p,cap),hc,rfl,rfl⟩)
        · rw [if_neg (by rw [← bP_f hfit];simp)]
          rw [hbad rfl hfit] at hk1
          unfold DReadQ vZ zeroI
          repeat (first|(first|refine zB ?_|refine zE ?_|refine zG ?_|refine zL rfl ?_|refine zV ?_)|(first|((first|refine zA rfl ?_);first|refine JOq (vS rfl rfl (by omega)) rfl ?_|refine yG (cs := [.int .i64 0,.int .i64 0,.int .i64 0,.int .i64 0,.int .i64 0,.slice none 0 0]) rfl rfl rfl ?_|refine yG (cs := [.int .i64 2,.int .i64 pl]) rfl rfl rfl ?_|refine zD rfl rfl ?_|refine zO rfl rfl (by rfl) (by rfl) (by first | decide | simp [Value.oneCell']) rfl ?_|refine zR rfl (hk1) rfl ?_)))
          exact ⟨rfl,_,uO rfl (yV rfl rfl) (yV rfl rfl),_,vw0.trans (Ent.sel (K := [Vw 1 (.slice none 0 0) 0 (ints []),DrB d bs2 pl2])),(none,0),Nat.le_refl _,rfl,rfl⟩
      · rw [if_pos h0]
        unfold DReadQ vZ zeroI
        repeat (first|(first|refine zB ?_|refine zE ?_|refine zG ?_|refine zP ?_|refine zL rfl ?_|refine zJ rfl ?_)|(first|((first|refine zA rfl ?_);first|refine JOq (JQ_gtrF rfl rfl (by omega)) rfl ?_|refine JOq (vS rfl rfl (by omega)) rfl ?_|refine JOq (vW rfl rfl (by omega)) rfl ?_|refine JOq (yX (a := o.toNat) rfl (vF (by omega))) rfl ?_|refine yK rfl ho rfl (fun y hy => ?_)|refine zO rfl rfl (by rfl) (by rfl) (ins_one hy.1) rfl ?_|refine zD rfl rfl ?_|refine zC rfl rfl ?_|refine zF rfl rfl ?_|refine zH rfl rfl ?_|refine zT rfl rfl rfl ?_|refine zS rfl (fun r => ?_)|refine zO rfl rfl (by rfl) (by rfl) (by first | decide | simp [Value.oneCell']) rfl ?_|refine zN rfl (hp) rfl ?_|refine zN rfl (hb) rfl ?_)))
        refine tG none [] Ent.nil ?_
        repeat' (first|refine JW_fin rfl ?_|refine JW_only rfl ?_|refine JW_two rfl ?_ ?_|refine vV rfl rfl (yG (cs := [.int .i64 0,.int .i64 0,.int .i64 0,.int .i64 0,.int .i64 0,.slice none 0 0]) rfl rfl rfl ⟨by first|exact (fun _ => Ent.sel),?_⟩)|refine vV rfl rfl (zU rfl (by rfl) rfl ⟨by first|exact (fun _ => Ent.sel),?_⟩)|refine vV rfl rfl (zO rfl rfl (by rfl) (by rfl) (by simp [Value.oneCell']) rfl ⟨by first|exact (fun _ => Ent.sel),?_⟩))
        all_goals (refine zV ?_;exact ⟨rfl,_,uO rfl (yV rfl rfl) (yV rfl rfl),_,vw0.trans (Ent.sel (K := [Vw 1 (.slice none 0 0) 0 (ints []),DrB d bs2 pl2])),(none,0),Nat.le_refl _,rfl,rfl⟩)
end Go.Proofs.YtickblndgihoeaaGreatDoor
