/- Layer 9: the document reads an op's operands. -/
import Derived.Test.YtickblndgihoeaaGreatDoorM11
set_option linter.unusedSimpArgs false
namespace Go.Proofs.YtickblndgihoeaaGreatDoor
open Go Go.Sp
theorem natI_len {l : List Nat} : (vI l).length = l.length := by simp [vI]
theorem own0t {e : Nat} {L : List HP} : Ent L (yC e 1 (.slice none 0 0) 0 (ints (vI [])) :: L) := own0
theorem cntA_ok (many m : Int) (bs : List UInt8) (pl : Int) : ((cntA many m bs pl).c = 0 → (cntA many m bs pl).a = 0 ∧ True) ∧ ((cntA many m bs pl).c ≠ 0 → (cntA many m bs pl).l = []) := by
  unfold cntA
  split
  · rename_i h;exact ⟨fun h2 => absurd h2 h,fun _ => rfl⟩
  · have := listA_ok (smA bs pl many).1 m [] (uA bs pl).rest (uA bs pl).pl
    exact ⟨fun h => ⟨(this.1 h).1,trivial⟩,this.2⟩
def fixI (y : Ins) (ls : List Nat) : Ins := match ls with | [b,c] => { y with b := b,c := c } | _ => y
theorem ints_pair {b c : Nat} : (ints (vI [b,c]))[0]? = some (.int .i64 ((b : Nat) : Int)) ∧ (ints (vI [b,c]))[1]? = some (.int .i64 ((c : Nat) : Int)) := ⟨rfl,rfl⟩
theorem fixI_ne {y : Ins} {ls : List Nat} (h : ¬ ls.length = 2) : fixI y ls = y := by
  unfold fixI
  split
  · exact absurd rfl h
  · rfl
theorem op_plain {un : Bool} {o : Nat} {bs : List UInt8} {pl : Int} : xS ⟨false,-1,-1,-1,-1,0,0,un⟩ o bs pl = ⟨⟨o,0,0,0,0,[]⟩,0,0,bs,pl⟩ := by simp [xS,optK,manyK,listK,finK,vI]
theorem op_S {un : Bool} {o : Nat} {bs : List UInt8} {pl : Int} : xS ⟨true,-1,-1,-1,-1,0,0,un⟩ o bs pl = if (uA bs pl).c ≠ 0 then vZ (uA bs pl).c (uA bs pl).a (uA bs pl).rest (uA bs pl).pl else ⟨⟨o,uB (uA bs pl).n,0,0,0,[]⟩,0,0,(uA bs pl).rest,(uA bs pl).pl⟩ := by simp [xS]
theorem op_B {un : Bool} {o : Nat} {bs : List UInt8} {pl : Int} : xS ⟨false,15,-1,-1,-1,0,0,un⟩ o bs pl = vY 15 (fun b bs pl => ⟨⟨o,0,b,0,0,[]⟩,0,0,bs,pl⟩) bs pl := by
  simp [xS,optK,manyK,listK]
  rfl
theorem op_sel {un : Bool} {o : Nat} {bs : List UInt8} {pl : Int} : xS ⟨false,15,7,-1,-1,0,0,un⟩ o bs pl = vY 15 (fun b => vY 7 (fun c bs pl => ⟨⟨o,0,b,c,0,[]⟩,0,0,bs,pl⟩)) bs pl := by
  simp [xS,optK,manyK,listK]
  rfl
theorem op_J {un : Bool} {o : Nat} {bs : List UInt8} {pl : Int} : xS ⟨false,-1,-1,-1,127,1,1,un⟩ o bs pl = if (vX 1 127 [] bs pl).c ≠ 0 then vZ (vX 1 127 [] bs pl).c (vX 1 127 [] bs pl).a (vX 1 127 [] bs pl).bs (vX 1 127 [] bs pl).pl else ⟨⟨o,0,0,0,0,vI (vX 1 127 [] bs pl).l⟩,0,0,(vX 1 127 [] bs pl).bs,(vX 1 127 [] bs pl).pl⟩ := by
  simp only [xS,optK,manyK]
  simp [listK_A]
  rfl
theorem op_cnt {un : Bool} {m : Int} {least : Nat} (hl : least < 8) {o : Nat} {bs : List UInt8} {pl : Int} : xS ⟨false,15,-1,-1,m,least,8,un⟩ o bs pl = vY 15 (fun b bs pl => if (cntA 8 m bs pl).c ≠ 0 then vZ (cntA 8 m bs pl).c (cntA 8 m bs pl).a (cntA 8 m bs pl).bs (cntA 8 m bs pl).pl else ⟨⟨o,0,b,0,0,vI (cntA 8 m bs pl).l⟩,0,0,(cntA 8 m bs pl).bs,(cntA 8 m bs pl).pl⟩) bs pl := by
  have h : ((least : Nat) : Int) < ((8 : Nat) : Int) := by omega
  have e : (fun b : Int => optK (-1) (fun c => optK (-1) (fun d => manyK ⟨false,15,-1,-1,m,least,8,un⟩ (finK o b c d)))) = fun b => fun bs pl => if (cntA 8 m bs pl).c ≠ 0 then vZ (cntA 8 m bs pl).c (cntA 8 m bs pl).a (cntA 8 m bs pl).bs (cntA 8 m bs pl).pl else ⟨⟨o,0,b,0,0,vI (cntA 8 m bs pl).l⟩,0,0,(cntA 8 m bs pl).bs,(cntA 8 m bs pl).pl⟩ := by
    funext b bs pl
    rw [optK_none rfl,optK_none rfl,manyK_lt h]
    exact cntK_A _ _ _ _ _
  unfold xS
  rw [if_neg (by simp)]
  rw [e,optK_some (show ¬ (15 : Int) = -1 by decide)]
theorem op_new {un : Bool} {o : Nat} {bs : List UInt8} {pl : Int} : xS ⟨false,63,-1,1000,15,2,2,un⟩ o bs pl = vY 63 (fun b => vY 1000 (fun d bs pl => if (vX 2 15 [] bs pl).c ≠ 0 then vZ (vX 2 15 [] bs pl).c (vX 2 15 [] bs pl).a (vX 2 15 [] bs pl).bs (vX 2 15 [] bs pl).pl else ⟨⟨o,0,b,0,d,vI (vX 2 15 [] bs pl).l⟩,0,0,(vX 2 15 [] bs pl).bs,(vX 2 15 [] bs pl).pl⟩)) bs pl := by
  have e : ∀ b d : Int,manyK ⟨false,63,-1,1000,15,2,2,un⟩ (finK o b 0 d) = fun bs pl => if (vX 2 15 [] bs pl).c ≠ 0 then vZ (vX 2 15 [] bs pl).c (vX 2 15 [] bs pl).a (vX 2 15 [] bs pl).bs (vX 2 15 [] bs pl).pl else ⟨⟨o,0,b,0,d,vI (vX 2 15 [] bs pl).l⟩,0,0,(vX 2 15 [] bs pl).bs,(vX 2 15 [] bs pl).pl⟩ := fun b d => by
    funext bs pl
    rw [manyK_ge (show ¬ ((2 : Nat) : Int) < ((2 : Nat) : Int) by decide)]
    exact listK_A _ _ _ _ _ _
  unfold xS
  rw [if_neg (by simp)]
  simp only [optK_none,optK_some (show ¬ (63 : Int) = -1 by decide),optK_some (show ¬ (1000 : Int) = -1 by decide),e]
theorem op_L2 {un : Bool} {o : Nat} {bs : List UInt8} {pl : Int} : xS ⟨false,15,15,-1,-1,0,0,un⟩ o bs pl = if (vX 2 15 [] bs pl).c ≠ 0 then vZ (vX 2 15 [] bs pl).c (vX 2 15 [] bs pl).a (vX 2 15 [] bs pl).bs (vX 2 15 [] bs pl).pl else ⟨fixI ⟨o,0,0,0,0,[]⟩ (vX 2 15 [] bs pl).l,0,0,(vX 2 15 [] bs pl).bs,(vX 2 15 [] bs pl).pl⟩ := by
  have h : xS ⟨false,15,15,-1,-1,0,0,un⟩ o bs pl = vY 15 (fun b => vY 15 (fun c bs pl => ⟨⟨o,0,b,c,0,[]⟩,0,0,bs,pl⟩)) bs pl := by
    simp [xS,optK,manyK,listK]
    rfl
  rw [h]
  unfold vY
  simp only [vX]
  split
  · rfl
  · split
    · rfl
    · rfl
abbrev DoQ (R : RdR) (d : Nat) : Ending → List HP → Prop := RetE (fun y : Ins × Value => y.2.oneCell' = true ∧ (R.c = 0 → y.1 = R.x)) (fun y => .tuple #[.agg (insC y.1 y.2).toArray,uC R.c R.a]) (fun y => [yC 3 1 y.2 y.1.l.length (ints y.1.l),DrB d R.bs R.pl])
attribute [local irreducible] callFunc Go.method J JL JO JR JR1 JRl Ct JG JM JM1 JW JW1 JQ JQ0 JS CtD xB ints RdB DrB Er uA smA by8 vX cntA vI
set_option maxRecDepth 8000 in
set_option maxHeartbeats 16000000 in
theorem doperands_c (d n : Nat) (hn : n ≤ 24) (bs : List UInt8) (pl : Int) (hpl : 0 ≤ pl ∧ pl + bs.length ≤ 1000000) :
    Ct Tryz.prog 164 #[ptr d,.int .i64 (n : Int)] [DrB d bs pl] (DoQ (xS (zQ n).1 n bs pl) d) := by
  refine yE (vs := [_,_]) Tryz.func164 rfl Tryz.ntmps164 (by simp) ?_
  unfold DoQ
  repeat (first|(first|refine zB ?_|refine zE ?_|refine zG ?_)|(first|((first|refine zA rfl ?_);first|refine yG (cs := [.int .i64 (n : Int),.int .i64 0,.int .i64 0,.int .i64 0,.int .i64 0,(.slice none 0 0)]) rfl rfl rfl ?_|refine zD rfl rfl ?_|refine zC rfl rfl ?_|refine zS rfl (fun r => ?_)|refine zO rfl rfl (by rfl) (by rfl) (by first | decide | simp [Value.oneCell']) rfl ?_)))
  rename_i n4 n5 n6
  revert r
  intro n7
  dsimp only [thn]
  refine uI (α := { y : Ins × Value × Value × List Nat // y.2.1.oneCell' = true ∧ y.2.2.1.oneCell' = true ∧ ((xS (zQ n).1 n bs pl).c = 0 → fixI y.1 y.2.2.2 = (xS (zQ n).1 n bs pl).x) }) (fun y => [(4,ptr n4),(5,ptr n5),(6,ptr n6),(7,ptr n7),(8,y.1.2.2.1)]) (fun y => [yC 3 1 y.1.2.1 y.1.1.l.length (ints y.1.1.l),pt n6 (.cells #[.int .i64 y.1.1.op,.int .i64 y.1.1.a,.int .i64 y.1.1.b,.int .i64 y.1.1.c,.int .i64 y.1.1.d,y.1.2.1] 52 (0,0)),pt n7 (.cells #[.int .i64 (xS (zQ n).1 n bs pl).c,.int .i64 (xS (zQ n).1 n bs pl).a] 87 (0,0)),pt n4 (.cells #[.int .i64 0,.int .i64 0,.int .i64 0,.int .i64 0,.int .i64 0,(.slice none 0 0)] 52 (0,0)),pt n5 (.cells #[.int .i64 0,.int .i64 0] 87 (0,0)),DrB d (xS (zQ n).1 n bs pl).bs (xS (zQ n).1 n bs pl).pl,yC 3 1 y.1.2.2.1 y.1.2.2.2.length (ints (vI y.1.2.2.2))]) ?_ ?_
  · match n,hn with
    | 0,_ =>
      generalize hR : xS (zQ 0).1 0 bs pl = R
      rw [show (zQ 0).1 = ⟨false,-1,-1,-1,-1,0,0,false⟩ from rfl,op_plain] at hR
      subst hR
      repeat (first|(first|refine zB ?_|refine zE ?_|refine zG ?_|refine zK ?_|refine zP ?_|refine zJ rfl ?_)|(first|((first|refine zA rfl ?_);first|refine JOq (yL rfl rfl (by omega)) rfl ?_|refine zC rfl rfl ?_)))
      exact ⟨⟨(⟨((0 : Nat) : Int),0,0,0,0,[]⟩,(.slice none 0 0),(.slice none 0 0),[]),⟨rfl,rfl,fun _ => rfl⟩⟩,by (repeat (first|exact zM _|refine zI rfl ?_)),rfl,by dsimp only [vZ];exact ((own0t (e := 3)).trans ((uZ (e := 3)).trans (Ent.sel (K := [yC 3 1 (.slice none 0 0) 0 (ints []),pt n6 (.cells #[.int .i64 ((0 : Nat) : Int),.int .i64 0,.int .i64 0,.int .i64 0,.int .i64 0,(.slice none 0 0)] 52 (0,0)),pt n7 (.cells #[.int .i64 0,.int .i64 0] 87 (0,0)),pt n4 (.cells #[.int .i64 0,.int .i64 0,.int .i64 0,.int .i64 0,.int .i64 0,(.slice none 0 0)] 52 (0,0)),pt n5 (.cells #[.int .i64 0,.int .i64 0] 87 (0,0)),DrB d bs pl,yC 3 1 (.slice none 0 0) 0 (ints (vI []))]))))⟩
    | 1,_ =>
      generalize hR : xS (zQ 1).1 1 bs pl = R
      rw [show (zQ 1).1 = ⟨true,-1,-1,-1,-1,0,0,false⟩ from rfl,op_S] at hR
      have hs := ds_B d bs pl (by omega)
      have ha := uA_a bs pl
      generalize uA bs pl = A at *
      rcases A with ⟨z,c0,e0,rest,pl2⟩
      dsimp only at hs ha hR
      by_cases h0 : c0 = 0
      · subst h0
        obtain rfl := ha rfl
        rw [if_neg (by simp)] at hR
        subst hR
        repeat (first|(first|refine zB ?_|refine zE ?_|refine zG ?_|refine zK ?_|refine zL rfl ?_)|(first|((first|refine zA rfl ?_);first|refine JOq (yT rfl rfl (by omega)) rfl ?_|refine zD rfl rfl ?_|refine zC rfl rfl ?_|refine zF rfl rfl ?_|refine zT rfl rfl rfl ?_|refine zW rfl rfl (by first | rfl | assumption) rfl ?_|refine zO rfl rfl (by rfl) (by rfl) (by first | decide | simp [Value.oneCell']) rfl ?_|refine zN rfl (hs) rfl ?_)))
        exact ⟨⟨(⟨((1 : Nat) : Int),(uB z),0,0,0,[]⟩,(.slice none 0 0),(.slice none 0 0),[]),⟨rfl,rfl,fun _ => rfl⟩⟩,by (repeat (first|exact zM _|refine zI rfl ?_)),rfl,by dsimp only [vZ];exact ((own0t (e := 3)).trans ((uZ (e := 3)).trans (Ent.sel (K := [yC 3 1 (.slice none 0 0) 0 (ints []),pt n6 (.cells #[.int .i64 ((1 : Nat) : Int),.int .i64 (uB z),.int .i64 0,.int .i64 0,.int .i64 0,(.slice none 0 0)] 52 (0,0)),pt n7 (.cells #[.int .i64 0,.int .i64 0] 87 (0,0)),pt n4 (.cells #[.int .i64 0,.int .i64 0,.int .i64 0,.int .i64 0,.int .i64 0,(.slice none 0 0)] 52 (0,0)),pt n5 (.cells #[.int .i64 0,.int .i64 0] 87 (0,0)),DrB d rest pl2,yC 3 1 (.slice none 0 0) 0 (ints (vI []))]))))⟩
      · rw [if_pos h0] at hR
        subst hR
        repeat (first|(first|refine zB ?_|refine zE ?_|refine zG ?_|refine zK ?_|refine zL rfl ?_)|(first|((first|refine zA rfl ?_);first|refine JOq (yT rfl rfl (by omega)) rfl ?_|refine zD rfl rfl ?_|refine zC rfl rfl ?_|refine zF rfl rfl ?_|refine zT rfl rfl rfl ?_|refine zW rfl rfl (by first | rfl | assumption) rfl ?_|refine zO rfl rfl (by rfl) (by rfl) (by first | decide | simp [Value.oneCell']) rfl ?_|refine zN rfl (hs) rfl ?_)))
        exact ⟨⟨(⟨((1 : Nat) : Int),(uB z),0,0,0,[]⟩,(.slice none 0 0),(.slice none 0 0),[]),⟨rfl,rfl,fun h => absurd h h0⟩⟩,by (repeat (first|exact zM _|refine zI rfl ?_)),rfl,by dsimp only [vZ];exact ((own0t (e := 3)).trans ((uZ (e := 3)).trans (Ent.sel (K := [yC 3 1 (.slice none 0 0) 0 (ints []),pt n6 (.cells #[.int .i64 ((1 : Nat) : Int),.int .i64 (uB z),.int .i64 0,.int .i64 0,.int .i64 0,(.slice none 0 0)] 52 (0,0)),pt n7 (.cells #[.int .i64 c0,.int .i64 e0] 87 (0,0)),pt n4 (.cells #[.int .i64 0,.int .i64 0,.int .i64 0,.int .i64 0,.int .i64 0,(.slice none 0 0)] 52 (0,0)),pt n5 (.cells #[.int .i64 0,.int .i64 0] 87 (0,0)),DrB d rest pl2,yC 3 1 (.slice none 0 0) 0 (ints (vI []))]))))⟩
    | 2,_ =>
      generalize hR : xS (zQ 2).1 2 bs pl = R
      rw [show (zQ 2).1 = ⟨false,-1,-1,-1,-1,0,0,false⟩ from rfl,op_plain] at hR
      subst hR
      repeat (first|(first|refine zB ?_|refine zE ?_|refine zG ?_|refine zK ?_|refine zP ?_|refine zJ rfl ?_)|(first|((first|refine zA rfl ?_);first|refine JOq (yL rfl rfl (by omega)) rfl ?_|refine zC rfl rfl ?_)))
      exact ⟨⟨(⟨((2 : Nat) : Int),0,0,0,0,[]⟩,(.slice none 0 0),(.slice none 0 0),[]),⟨rfl,rfl,fun _ => rfl⟩⟩,by (repeat (first|exact zM _|refine zI rfl ?_)),rfl,by dsimp only [vZ];exact ((own0t (e := 3)).trans ((uZ (e := 3)).trans (Ent.sel (K := [yC 3 1 (.slice none 0 0) 0 (ints []),pt n6 (.cells #[.int .i64 ((2 : Nat) : Int),.int .i64 0,.int .i64 0,.int .i64 0,.int .i64 0,(.slice none 0 0)] 52 (0,0)),pt n7 (.cells #[.int .i64 0,.int .i64 0] 87 (0,0)),pt n4 (.cells #[.int .i64 0,.int .i64 0,.int .i64 0,.int .i64 0,.int .i64 0,(.slice none 0 0)] 52 (0,0)),pt n5 (.cells #[.int .i64 0,.int .i64 0] 87 (0,0)),DrB d bs pl,yC 3 1 (.slice none 0 0) 0 (ints (vI []))]))))⟩
    | 3,_ =>
      generalize hR : xS (zQ 3).1 3 bs pl = R
      rw [show (zQ 3).1 = ⟨false,-1,-1,-1,-1,0,0,false⟩ from rfl,op_plain] at hR
      subst hR
      repeat (first|(first|refine zB ?_|refine zE ?_|refine zG ?_|refine zK ?_|refine zP ?_|refine zJ rfl ?_)|(first|((first|refine zA rfl ?_);first|refine JOq (yL rfl rfl (by omega)) rfl ?_|refine zC rfl rfl ?_)))
      exact ⟨⟨(⟨((3 : Nat) : Int),0,0,0,0,[]⟩,(.slice none 0 0),(.slice none 0 0),[]),⟨rfl,rfl,fun _ => rfl⟩⟩,by (repeat (first|exact zM _|refine zI rfl ?_)),rfl,by dsimp only [vZ];exact ((own0t (e := 3)).trans ((uZ (e := 3)).trans (Ent.sel (K := [yC 3 1 (.slice none 0 0) 0 (ints []),pt n6 (.cells #[.int .i64 ((3 : Nat) : Int),.int .i64 0,.int .i64 0,.int .i64 0,.int .i64 0,(.slice none 0 0)] 52 (0,0)),pt n7 (.cells #[.int .i64 0,.int .i64 0] 87 (0,0)),pt n4 (.cells #[.int .i64 0,.int .i64 0,.int .i64 0,.int .i64 0,.int .i64 0,(.slice none 0 0)] 52 (0,0)),pt n5 (.cells #[.int .i64 0,.int .i64 0] 87 (0,0)),DrB d bs pl,yC 3 1 (.slice none 0 0) 0 (ints (vI []))]))))⟩
    | 4,_ =>
      generalize hR : xS (zQ 4).1 4 bs pl = R
      rw [show (zQ 4).1 = ⟨false,-1,-1,-1,-1,0,0,false⟩ from rfl,op_plain] at hR
      subst hR
      repeat (first|(first|refine zB ?_|refine zE ?_|refine zG ?_|refine zK ?_|refine zP ?_|refine zJ rfl ?_)|(first|((first|refine zA rfl ?_);first|refine JOq (yL rfl rfl (by omega)) rfl ?_|refine zC rfl rfl ?_)))
      exact ⟨⟨(⟨((4 : Nat) : Int),0,0,0,0,[]⟩,(.slice none 0 0),(.slice none 0 0),[]),⟨rfl,rfl,fun _ => rfl⟩⟩,by (repeat (first|exact zM _|refine zI rfl ?_)),rfl,by dsimp only [vZ];exact ((own0t (e := 3)).trans ((uZ (e := 3)).trans (Ent.sel (K := [yC 3 1 (.slice none 0 0) 0 (ints []),pt n6 (.cells #[.int .i64 ((4 : Nat) : Int),.int .i64 0,.int .i64 0,.int .i64 0,.int .i64 0,(.slice none 0 0)] 52 (0,0)),pt n7 (.cells #[.int .i64 0,.int .i64 0] 87 (0,0)),pt n4 (.cells #[.int .i64 0,.int .i64 0,.int .i64 0,.int .i64 0,.int .i64 0,(.slice none 0 0)] 52 (0,0)),pt n5 (.cells #[.int .i64 0,.int .i64 0] 87 (0,0)),DrB d bs pl,yC 3 1 (.slice none 0 0) 0 (ints (vI []))]))))⟩
    | 5,_ =>
      generalize hR : xS (zQ 5).1 5 bs pl = R
      rw [show (zQ 5).1 = ⟨false,-1,-1,-1,-1,0,0,false⟩ from rfl,op_plain] at hR
      subst hR
      repeat (first|(first|refine zB ?_|refine zE ?_|refine zG ?_|refine zK ?_|refine zP ?_|refine zJ rfl ?_)|(first|((first|refine zA rfl ?_);first|refine JOq (yL rfl rfl (by omega)) rfl ?_|refine zC rfl rfl ?_)))
      exact ⟨⟨(⟨((5 : Nat) : Int),0,0,0,0,[]⟩,(.slice none 0 0),(.slice none 0 0),[]),⟨rfl,rfl,fun _ => rfl⟩⟩,by (repeat (first|exact zM _|refine zI rfl ?_)),rfl,by dsimp only [vZ];exact ((own0t (e := 3)).trans ((uZ (e := 3)).trans (Ent.sel (K := [yC 3 1 (.slice none 0 0) 0 (ints []),pt n6 (.cells #[.int .i64 ((5 : Nat) : Int),.int .i64 0,.int .i64 0,.int .i64 0,.int .i64 0,(.slice none 0 0)] 52 (0,0)),pt n7 (.cells #[.int .i64 0,.int .i64 0] 87 (0,0)),pt n4 (.cells #[.int .i64 0,.int .i64 0,.int .i64 0,.int .i64 0,.int .i64 0,(.slice none 0 0)] 52 (0,0)),pt n5 (.cells #[.int .i64 0,.int .i64 0] 87 (0,0)),DrB d bs pl,yC 3 1 (.slice none 0 0) 0 (ints (vI []))]))))⟩
    | 6,_ =>
      generalize hR : xS (zQ 6).1 6 bs pl = R
      rw [show (zQ 6).1 = ⟨false,-1,-1,-1,-1,0,0,false⟩ from rfl,op_plain] at hR
      subst hR
      repeat (first|(first|refine zB ?_|refine zE ?_|refine zG ?_|refine zK ?_|refine zP ?_|refine zJ rfl ?_)|(first|((first|refine zA rfl ?_);first|refine JOq (yL rfl rfl (by omega)) rfl ?_|refine zC rfl rfl ?_)))
      exact ⟨⟨(⟨((6 : Nat) : Int),0,0,0,0,[]⟩,(.slice none 0 0),(.slice none 0 0),[]),⟨rfl,rfl,fun _ => rfl⟩⟩,by (repeat (first|exact zM _|refine zI rfl ?_)),rfl,by dsimp only [vZ];exact ((own0t (e := 3)).trans ((uZ (e := 3)).trans (Ent.sel (K := [yC 3 1 (.slice none 0 0) 0 (ints []),pt n6 (.cells #[.int .i64 ((6 : Nat) : Int),.int .i64 0,.int .i64 0,.int .i64 0,.int .i64 0,(.slice none 0 0)] 52 (0,0)),pt n7 (.cells #[.int .i64 0,.int .i64 0] 87 (0,0)),pt n4 (.cells #[.int .i64 0,.int .i64 0,.int .i64 0,.int .i64 0,.int .i64 0,(.slice none 0 0)] 52 (0,0)),pt n5 (.cells #[.int .i64 0,.int .i64 0] 87 (0,0)),DrB d bs pl,yC 3 1 (.slice none 0 0) 0 (ints (vI []))]))))⟩
    | 7,_ =>
      generalize hR : xS (zQ 7).1 7 bs pl = R
      rw [show (zQ 7).1 = ⟨false,-1,-1,-1,-1,0,0,false⟩ from rfl,op_plain] at hR
      subst hR
      repeat (first|(first|refine zB ?_|refine zE ?_|refine zG ?_|refine zK ?_|refine zP ?_|refine zJ rfl ?_)|(first|((first|refine zA rfl ?_);first|refine JOq (yL rfl rfl (by omega)) rfl ?_|refine zC rfl rfl ?_)))
      exact ⟨⟨(⟨((7 : Nat) : Int),0,0,0,0,[]⟩,(.slice none 0 0),(.slice none 0 0),[]),⟨rfl,rfl,fun _ => rfl⟩⟩,by (repeat (first|exact zM _|refine zI rfl ?_)),rfl,by dsimp only [vZ];exact ((own0t (e := 3)).trans ((uZ (e := 3)).trans (Ent.sel (K := [yC 3 1 (.slice none 0 0) 0 (ints []),pt n6 (.cells #[.int .i64 ((7 : Nat) : Int),.int .i64 0,.int .i64 0,.int .i64 0,.int .i64 0,(.slice none 0 0)] 52 (0,0)),pt n7 (.cells #[.int .i64 0,.int .i64 0] 87 (0,0)),pt n4 (.cells #[.int .i64 0,.int .i64 0,.int .i64 0,.int .i64 0,.int .i64 0,(.slice none 0 0)] 52 (0,0)),pt n5 (.cells #[.int .i64 0,.int .i64 0] 87 (0,0)),DrB d bs pl,yC 3 1 (.slice none 0 0) 0 (ints (vI []))]))))⟩
    | 8,_ =>
      generalize hR : xS (zQ 8).1 8 bs pl = R
      rw [show (zQ 8).1 = ⟨false,-1,-1,-1,-1,0,0,false⟩ from rfl,op_plain] at hR
      subst hR
      repeat (first|(first|refine zB ?_|refine zE ?_|refine zG ?_|refine zK ?_|refine zP ?_|refine zJ rfl ?_)|(first|((first|refine zA rfl ?_);first|refine JOq (yL rfl rfl (by omega)) rfl ?_|refine zC rfl rfl ?_)))
      exact ⟨⟨(⟨((8 : Nat) : Int),0,0,0,0,[]⟩,(.slice none 0 0),(.slice none 0 0),[]),⟨rfl,rfl,fun _ => rfl⟩⟩,by (repeat (first|exact zM _|refine zI rfl ?_)),rfl,by dsimp only [vZ];exact ((own0t (e := 3)).trans ((uZ (e := 3)).trans (Ent.sel (K := [yC 3 1 (.slice none 0 0) 0 (ints []),pt n6 (.cells #[.int .i64 ((8 : Nat) : Int),.int .i64 0,.int .i64 0,.int .i64 0,.int .i64 0,(.slice none 0 0)] 52 (0,0)),pt n7 (.cells #[.int .i64 0,.int .i64 0] 87 (0,0)),pt n4 (.cells #[.int .i64 0,.int .i64 0,.int .i64 0,.int .i64 0,.int .i64 0,(.slice none 0 0)] 52 (0,0)),pt n5 (.cells #[.int .i64 0,.int .i64 0] 87 (0,0)),DrB d bs pl,yC 3 1 (.slice none 0 0) 0 (ints (vI []))]))))⟩
    | 9,_ =>
      generalize hR : xS (zQ 9).1 9 bs pl = R
      rw [show (zQ 9).1 = ⟨false,15,-1,-1,-1,0,0,false⟩ from rfl,op_B] at hR
      have hs0 := dsm_B d bs pl 15 (by omega) (by decide)
      have hu0 := uA_ok bs pl
      have ha0 := sm_a (bs := bs) (pl := pl) (most := 15)
      try unfold vY at hR
      try dsimp only at hR
      generalize smA bs pl 15 = S0 at *
      generalize uA bs pl = A0 at *
      rcases S0 with ⟨z0,c0,e0⟩
      dsimp only at hs0 ha0 hR
      by_cases h0 : c0 = 0
      · subst h0
        obtain rfl := ha0 rfl
        rw [if_neg (by simp)] at hR
        subst hR
        repeat (first|(first|refine zB ?_|refine zE ?_|refine zG ?_|refine zK ?_|refine zP ?_|refine zL rfl ?_|refine zJ rfl ?_)|(first|((first|refine zA rfl ?_);first|refine JOq (yT rfl rfl (by omega)) rfl ?_|refine JOq (yL rfl rfl (by omega)) rfl ?_|refine zD rfl rfl ?_|refine zC rfl rfl ?_|refine zF rfl rfl ?_|refine zT rfl rfl rfl ?_|refine zW rfl rfl (by first | rfl | assumption) rfl ?_|refine zO rfl rfl (by rfl) (by rfl) (by first | decide | simp [Value.oneCell']) rfl ?_|refine zN rfl (hs0) rfl ?_)))
        exact ⟨⟨(⟨((9 : Nat) : Int),0,((z0 : Nat) : Int),0,0,[]⟩,(.slice none 0 0),(.slice none 0 0),[]),⟨rfl,rfl,fun _ => rfl⟩⟩,by (repeat (first|exact zM _|refine zI rfl ?_)),rfl,by dsimp only [vZ];exact ((own0t (e := 3)).trans ((uZ (e := 3)).trans (Ent.sel (K := [yC 3 1 (.slice none 0 0) 0 (ints []),pt n6 (.cells #[.int .i64 ((9 : Nat) : Int),.int .i64 0,.int .i64 ((z0 : Nat) : Int),.int .i64 0,.int .i64 0,(.slice none 0 0)] 52 (0,0)),pt n7 (.cells #[.int .i64 0,.int .i64 0] 87 (0,0)),pt n4 (.cells #[.int .i64 0,.int .i64 0,.int .i64 0,.int .i64 0,.int .i64 0,(.slice none 0 0)] 52 (0,0)),pt n5 (.cells #[.int .i64 0,.int .i64 0] 87 (0,0)),DrB d A0.rest A0.pl,yC 3 1 (.slice none 0 0) 0 (ints (vI []))]))))⟩
      · rw [if_pos h0] at hR
        subst hR
        repeat (first|(first|refine zB ?_|refine zE ?_|refine zG ?_|refine zK ?_|refine zP ?_|refine zL rfl ?_|refine zJ rfl ?_)|(first|((first|refine zA rfl ?_);first|refine JOq (yT rfl rfl (by omega)) rfl ?_|refine JOq (yL rfl rfl (by omega)) rfl ?_|refine zD rfl rfl ?_|refine zC rfl rfl ?_|refine zF rfl rfl ?_|refine zT rfl rfl rfl ?_|refine zW rfl rfl (by first | rfl | assumption) rfl ?_|refine zO rfl rfl (by rfl) (by rfl) (by first | decide | simp [Value.oneCell']) rfl ?_|refine zN rfl (hs0) rfl ?_)))
        exact ⟨⟨(⟨((9 : Nat) : Int),0,((z0 : Nat) : Int),0,0,[]⟩,(.slice none 0 0),(.slice none 0 0),[]),⟨rfl,rfl,fun h => absurd h h0⟩⟩,by (repeat (first|exact zM _|refine zI rfl ?_)),rfl,by dsimp only [vZ];exact ((own0t (e := 3)).trans ((uZ (e := 3)).trans (Ent.sel (K := [yC 3 1 (.slice none 0 0) 0 (ints []),pt n6 (.cells #[.int .i64 ((9 : Nat) : Int),.int .i64 0,.int .i64 ((z0 : Nat) : Int),.int .i64 0,.int .i64 0,(.slice none 0 0)] 52 (0,0)),pt n7 (.cells #[.int .i64 c0,.int .i64 e0] 87 (0,0)),pt n4 (.cells #[.int .i64 0,.int .i64 0,.int .i64 0,.int .i64 0,.int .i64 0,(.slice none 0 0)] 52 (0,0)),pt n5 (.cells #[.int .i64 0,.int .i64 0] 87 (0,0)),DrB d A0.rest A0.pl,yC 3 1 (.slice none 0 0) 0 (ints (vI []))]))))⟩
    | 10,_ =>
      generalize hR : xS (zQ 10).1 10 bs pl = R
      rw [show (zQ 10).1 = ⟨false,15,-1,-1,-1,0,0,false⟩ from rfl,op_B] at hR
      have hs0 := dsm_B d bs pl 15 (by omega) (by decide)
      have hu0 := uA_ok bs pl
      have ha0 := sm_a (bs := bs) (pl := pl) (most := 15)
      try unfold vY at hR
      try dsimp only at hR
      generalize smA bs pl 15 = S0 at *
      generalize uA bs pl = A0 at *
      rcases S0 with ⟨z0,c0,e0⟩
      dsimp only at hs0 ha0 hR
      by_cases h0 : c0 = 0
      · subst h0
        obtain rfl := ha0 rfl
        rw [if_neg (by simp)] at hR
        subst hR
        repeat (first|(first|refine zB ?_|refine zE ?_|refine zG ?_|refine zK ?_|refine zP ?_|refine zL rfl ?_|refine zJ rfl ?_)|(first|((first|refine zA rfl ?_);first|refine JOq (yT rfl rfl (by omega)) rfl ?_|refine JOq (yL rfl rfl (by omega)) rfl ?_|refine zD rfl rfl ?_|refine zC rfl rfl ?_|refine zF rfl rfl ?_|refine zT rfl rfl rfl ?_|refine zW rfl rfl (by first | rfl | assumption) rfl ?_|refine zO rfl rfl (by rfl) (by rfl) (by first | decide | simp [Value.oneCell']) rfl ?_|refine zN rfl (hs0) rfl ?_)))
        exact ⟨⟨(⟨((10 : Nat) : Int),0,((z0 : Nat) : Int),0,0,[]⟩,(.slice none 0 0),(.slice none 0 0),[]),⟨rfl,rfl,fun _ => rfl⟩⟩,by (repeat (first|exact zM _|refine zI rfl ?_)),rfl,by dsimp only [vZ];exact ((own0t (e := 3)).trans ((uZ (e := 3)).trans (Ent.sel (K := [yC 3 1 (.slice none 0 0) 0 (ints []),pt n6 (.cells #[.int .i64 ((10 : Nat) : Int),.int .i64 0,.int .i64 ((z0 : Nat) : Int),.int .i64 0,.int .i64 0,(.slice none 0 0)] 52 (0,0)),pt n7 (.cells #[.int .i64 0,.int .i64 0] 87 (0,0)),pt n4 (.cells #[.int .i64 0,.int .i64 0,.int .i64 0,.int .i64 0,.int .i64 0,(.slice none 0 0)] 52 (0,0)),pt n5 (.cells #[.int .i64 0,.int .i64 0] 87 (0,0)),DrB d A0.rest A0.pl,yC 3 1 (.slice none 0 0) 0 (ints (vI []))]))))⟩
      · rw [if_pos h0] at hR
        subst hR
        repeat (first|(first|refine zB ?_|refine zE ?_|refine zG ?_|refine zK ?_|refine zP ?_|refine zL rfl ?_|refine zJ rfl ?_)|(first|((first|refine zA rfl ?_);first|refine JOq (yT rfl rfl (by omega)) rfl ?_|refine JOq (yL rfl rfl (by omega)) rfl ?_|refine zD rfl rfl ?_|refine zC rfl rfl ?_|refine zF rfl rfl ?_|refine zT rfl rfl rfl ?_|refine zW rfl rfl (by first | rfl | assumption) rfl ?_|refine zO rfl rfl (by rfl) (by rfl) (by first | decide | simp [Value.oneCell']) rfl ?_|refine zN rfl (hs0) rfl ?_)))
        exact ⟨⟨(⟨((10 : Nat) : Int),0,((z0 : Nat) : Int),0,0,[]⟩,(.slice none 0 0),(.slice none 0 0),[]),⟨rfl,rfl,fun h => absurd h h0⟩⟩,by (repeat (first|exact zM _|refine zI rfl ?_)),rfl,by dsimp only [vZ];exact ((own0t (e := 3)).trans ((uZ (e := 3)).trans (Ent.sel (K := [yC 3 1 (.slice none 0 0) 0 (ints []),pt n6 (.cells #[.int .i64 ((10 : Nat) : Int),.int .i64 0,.int .i64 ((z0 : Nat) : Int),.int .i64 0,.int .i64 0,(.slice none 0 0)] 52 (0,0)),pt n7 (.cells #[.int .i64 c0,.int .i64 e0] 87 (0,0)),pt n4 (.cells #[.int .i64 0,.int .i64 0,.int .i64 0,.int .i64 0,.int .i64 0,(.slice none 0 0)] 52 (0,0)),pt n5 (.cells #[.int .i64 0,.int .i64 0] 87 (0,0)),DrB d A0.rest A0.pl,yC 3 1 (.slice none 0 0) 0 (ints (vI []))]))))⟩
    | 11,_ =>
      generalize hR : xS (zQ 11).1 11 bs pl = R
      rw [show (zQ 11).1 = ⟨false,-1,-1,-1,127,1,1,false⟩ from rfl,op_J] at hR
      have hl := dlist_c d 1 127 bs pl (by omega) (by decide) (by decide)
      have ho := listA_ok 1 127 [] bs pl
      unfold LsQ at hl
      generalize vX 1 127 [] bs pl = T at *
      rcases T with ⟨tl,tc,ta,tb,tp⟩
      dsimp only at hl ho hR
      by_cases h0 : tc = 0
      · subst h0
        obtain rfl := (ho.1 rfl).1
        rw [if_neg (by simp)] at hR
        subst hR
        repeat (first|(first|refine zB ?_|refine zE ?_|refine zG ?_|refine zK ?_|refine zP ?_|refine zL rfl ?_|refine zJ rfl ?_)|(first|((first|refine zA rfl ?_);first|refine JOq (yT rfl rfl (by omega)) rfl ?_|refine JOq (yL rfl rfl (by omega)) rfl ?_|refine yK rfl hl rfl (fun v hv => ?_)|refine zD rfl rfl ?_|refine zC rfl rfl ?_|refine zF rfl rfl ?_|refine zT rfl rfl rfl ?_|refine zW rfl rfl (by first | rfl | assumption) rfl ?_|refine zO rfl rfl (by rfl) (by rfl) (by first | decide | simp [Value.oneCell']) rfl ?_)))
        exact ⟨⟨(⟨((11 : Nat) : Int),0,0,0,0,vI tl⟩,v,(.slice none 0 0),[]),⟨hv,rfl,fun _ => rfl⟩⟩,by (repeat (first|exact zM _|refine zI rfl ?_)),rfl,by dsimp only [vZ];rw [natI_len];exact ((own0t (e := 3)).trans (Ent.sel (K := [yC 3 1 v tl.length (ints (vI tl)),pt n6 (.cells #[.int .i64 ((11 : Nat) : Int),.int .i64 0,.int .i64 0,.int .i64 0,.int .i64 0,v] 52 (0,0)),pt n7 (.cells #[.int .i64 0,.int .i64 0] 87 (0,0)),pt n4 (.cells #[.int .i64 0,.int .i64 0,.int .i64 0,.int .i64 0,.int .i64 0,(.slice none 0 0)] 52 (0,0)),pt n5 (.cells #[.int .i64 0,.int .i64 0] 87 (0,0)),DrB d tb tp,yC 3 1 (.slice none 0 0) 0 (ints (vI []))])))⟩
      · rw [if_pos h0] at hR
        subst hR
        repeat (first|(first|refine zB ?_|refine zE ?_|refine zG ?_|refine zK ?_|refine zP ?_|refine zL rfl ?_|refine zJ rfl ?_)|(first|((first|refine zA rfl ?_);first|refine JOq (yT rfl rfl (by omega)) rfl ?_|refine JOq (yL rfl rfl (by omega)) rfl ?_|refine yK rfl hl rfl (fun v hv => ?_)|refine zD rfl rfl ?_|refine zC rfl rfl ?_|refine zF rfl rfl ?_|refine zT rfl rfl rfl ?_|refine zW rfl rfl (by first | rfl | assumption) rfl ?_|refine zO rfl rfl (by rfl) (by rfl) (by first | decide | simp [Value.oneCell']) rfl ?_)))
        exact ⟨⟨(⟨((11 : Nat) : Int),0,0,0,0,vI tl⟩,v,(.slice none 0 0),[]),⟨hv,rfl,fun h => absurd h h0⟩⟩,by (repeat (first|exact zM _|refine zI rfl ?_)),rfl,by dsimp only [vZ];rw [natI_len];exact ((own0t (e := 3)).trans (Ent.sel (K := [yC 3 1 v tl.length (ints (vI tl)),pt n6 (.cells #[.int .i64 ((11 : Nat) : Int),.int .i64 0,.int .i64 0,.int .i64 0,.int .i64 0,v] 52 (0,0)),pt n7 (.cells #[.int .i64 tc,.int .i64 ta] 87 (0,0)),pt n4 (.cells #[.int .i64 0,.int .i64 0,.int .i64 0,.int .i64 0,.int .i64 0,(.slice none 0 0)] 52 (0,0)),pt n5 (.cells #[.int .i64 0,.int .i64 0] 87 (0,0)),DrB d tb tp,yC 3 1 (.slice none 0 0) 0 (ints (vI []))])))⟩
    | 12,_ =>
      generalize hR : xS (zQ 12).1 12 bs pl = R
      rw [show (zQ 12).1 = ⟨false,-1,-1,-1,127,1,1,false⟩ from rfl,op_J] at hR
      have hl := dlist_c d 1 127 bs pl (by omega) (by decide) (by decide)
      have ho := listA_ok 1 127 [] bs pl
      unfold LsQ at hl
      generalize vX 1 127 [] bs pl = T at *
      rcases T with ⟨tl,tc,ta,tb,tp⟩
      dsimp only at hl ho hR
      by_cases h0 : tc = 0
      · subst h0
        obtain rfl := (ho.1 rfl).1
        rw [if_neg (by simp)] at hR
        subst hR
        repeat (first|(first|refine zB ?_|refine zE ?_|refine zG ?_|refine zK ?_|refine zL rfl ?_|refine zJ rfl ?_)|(first|((first|refine zA rfl ?_);first|refine JOq (yT rfl rfl (by omega)) rfl ?_|refine JOq (yL rfl rfl (by omega)) rfl ?_|refine yK rfl hl rfl (fun v hv => ?_)|refine zD rfl rfl ?_|refine zC rfl rfl ?_|refine zF rfl rfl ?_|refine zT rfl rfl rfl ?_|refine zW rfl rfl (by first | rfl | assumption) rfl ?_|refine zO rfl rfl (by rfl) (by rfl) (by first | decide | simp [Value.oneCell']) rfl ?_)))
        exact ⟨⟨(⟨((12 : Nat) : Int),0,0,0,0,vI tl⟩,v,(.slice none 0 0),[]),⟨hv,rfl,fun _ => rfl⟩⟩,by (repeat (first|exact zM _|refine zI rfl ?_)),rfl,by dsimp only [vZ];rw [natI_len];exact ((own0t (e := 3)).trans (Ent.sel (K := [yC 3 1 v tl.length (ints (vI tl)),pt n6 (.cells #[.int .i64 ((12 : Nat) : Int),.int .i64 0,.int .i64 0,.int .i64 0,.int .i64 0,v] 52 (0,0)),pt n7 (.cells #[.int .i64 0,.int .i64 0] 87 (0,0)),pt n4 (.cells #[.int .i64 0,.int .i64 0,.int .i64 0,.int .i64 0,.int .i64 0,(.slice none 0 0)] 52 (0,0)),pt n5 (.cells #[.int .i64 0,.int .i64 0] 87 (0,0)),DrB d tb tp,yC 3 1 (.slice none 0 0) 0 (ints (vI []))])))⟩
      · rw [if_pos h0] at hR
        subst hR
        repeat (first|(first|refine zB ?_|refine zE ?_|refine zG ?_|refine zK ?_|refine zL rfl ?_|refine zJ rfl ?_)|(first|((first|refine zA rfl ?_);first|refine JOq (yT rfl rfl (by omega)) rfl ?_|refine JOq (yL rfl rfl (by omega)) rfl ?_|refine yK rfl hl rfl (fun v hv => ?_)|refine zD rfl rfl ?_|refine zC rfl rfl ?_|refine zF rfl rfl ?_|refine zT rfl rfl rfl ?_|refine zW rfl rfl (by first | rfl | assumption) rfl ?_|refine zO rfl rfl (by rfl) (by rfl) (by first | decide | simp [Value.oneCell']) rfl ?_)))
        exact ⟨⟨(⟨((12 : Nat) : Int),0,0,0,0,vI tl⟩,v,(.slice none 0 0),[]),⟨hv,rfl,fun h => absurd h h0⟩⟩,by (repeat (first|exact zM _|refine zI rfl ?_)),rfl,by dsimp only [vZ];rw [natI_len];exact ((own0t (e := 3)).trans (Ent.sel (K := [yC 3 1 v tl.length (ints (vI tl)),pt n6 (.cells #[.int .i64 ((12 : Nat) : Int),.int .i64 0,.int .i64 0,.int .i64 0,.int .i64 0,v] 52 (0,0)),pt n7 (.cells #[.int .i64 tc,.int .i64 ta] 87 (0,0)),pt n4 (.cells #[.int .i64 0,.int .i64 0,.int .i64 0,.int .i64 0,.int .i64 0,(.slice none 0 0)] 52 (0,0)),pt n5 (.cells #[.int .i64 0,.int .i64 0] 87 (0,0)),DrB d tb tp,yC 3 1 (.slice none 0 0) 0 (ints (vI []))])))⟩
    | 13,_ =>
      generalize hR : xS (zQ 13).1 13 bs pl = R
      rw [show (zQ 13).1 = ⟨false,-1,-1,-1,-1,0,0,false⟩ from rfl,op_plain] at hR
      subst hR
      repeat (first|(first|refine zB ?_|refine zE ?_|refine zG ?_|refine zK ?_|refine zP ?_|refine zJ rfl ?_)|(first|((first|refine zA rfl ?_);first|refine JOq (yL rfl rfl (by omega)) rfl ?_|refine zC rfl rfl ?_)))
      exact ⟨⟨(⟨((13 : Nat) : Int),0,0,0,0,[]⟩,(.slice none 0 0),(.slice none 0 0),[]),⟨rfl,rfl,fun _ => rfl⟩⟩,by (repeat (first|exact zM _|refine zI rfl ?_)),rfl,by dsimp only [vZ];exact ((own0t (e := 3)).trans ((uZ (e := 3)).trans (Ent.sel (K := [yC 3 1 (.slice none 0 0) 0 (ints []),pt n6 (.cells #[.int .i64 ((13 : Nat) : Int),.int .i64 0,.int .i64 0,.int .i64 0,.int .i64 0,(.slice none 0 0)] 52 (0,0)),pt n7 (.cells #[.int .i64 0,.int .i64 0] 87 (0,0)),pt n4 (.cells #[.int .i64 0,.int .i64 0,.int .i64 0,.int .i64 0,.int .i64 0,(.slice none 0 0)] 52 (0,0)),pt n5 (.cells #[.int .i64 0,.int .i64 0] 87 (0,0)),DrB d bs pl,yC 3 1 (.slice none 0 0) 0 (ints (vI []))]))))⟩
    | 14,_ =>
      generalize hR : xS (zQ 14).1 14 bs pl = R
      rw [show (zQ 14).1 = ⟨false,15,-1,-1,-1,0,0,false⟩ from rfl,op_B] at hR
      have hs0 := dsm_B d bs pl 15 (by omega) (by decide)
      have hu0 := uA_ok bs pl
      have ha0 := sm_a (bs := bs) (pl := pl) (most := 15)
      try unfold vY at hR
      try dsimp only at hR
      generalize smA bs pl 15 = S0 at *
      generalize uA bs pl = A0 at *
      rcases S0 with ⟨z0,c0,e0⟩
      dsimp only at hs0 ha0 hR
      by_cases h0 : c0 = 0
      · subst h0
        obtain rfl := ha0 rfl
        rw [if_neg (by simp)] at hR
        subst hR
        repeat (first|(first|refine zB ?_|refine zE ?_|refine zG ?_|refine zK ?_|refine zP ?_|refine zL rfl ?_|refine zJ rfl ?_)|(first|((first|refine zA rfl ?_);first|refine JOq (yT rfl rfl (by omega)) rfl ?_|refine JOq (yL rfl rfl (by omega)) rfl ?_|refine zD rfl rfl ?_|refine zC rfl rfl ?_|refine zF rfl rfl ?_|refine zT rfl rfl rfl ?_|refine zW rfl rfl (by first | rfl | assumption) rfl ?_|refine zO rfl rfl (by rfl) (by rfl) (by first | decide | simp [Value.oneCell']) rfl ?_|refine zN rfl (hs0) rfl ?_)))
        exact ⟨⟨(⟨((14 : Nat) : Int),0,((z0 : Nat) : Int),0,0,[]⟩,(.slice none 0 0),(.slice none 0 0),[]),⟨rfl,rfl,fun _ => rfl⟩⟩,by (repeat (first|exact zM _|refine zI rfl ?_)),rfl,by dsimp only [vZ];exact ((own0t (e := 3)).trans ((uZ (e := 3)).trans (Ent.sel (K := [yC 3 1 (.slice none 0 0) 0 (ints []),pt n6 (.cells #[.int .i64 ((14 : Nat) : Int),.int .i64 0,.int .i64 ((z0 : Nat) : Int),.int .i64 0,.int .i64 0,(.slice none 0 0)] 52 (0,0)),pt n7 (.cells #[.int .i64 0,.int .i64 0] 87 (0,0)),pt n4 (.cells #[.int .i64 0,.int .i64 0,.int .i64 0,.int .i64 0,.int .i64 0,(.slice none 0 0)] 52 (0,0)),pt n5 (.cells #[.int .i64 0,.int .i64 0] 87 (0,0)),DrB d A0.rest A0.pl,yC 3 1 (.slice none 0 0) 0 (ints (vI []))]))))⟩
      · rw [if_pos h0] at hR
        subst hR
        repeat (first|(first|refine zB ?_|refine zE ?_|refine zG ?_|refine zK ?_|refine zP ?_|refine zL rfl ?_|refine zJ rfl ?_)|(first|((first|refine zA rfl ?_);first|refine JOq (yT rfl rfl (by omega)) rfl ?_|refine JOq (yL rfl rfl (by omega)) rfl ?_|refine zD rfl rfl ?_|refine zC rfl rfl ?_|refine zF rfl rfl ?_|refine zT rfl rfl rfl ?_|refine zW rfl rfl (by first | rfl | assumption) rfl ?_|refine zO rfl rfl (by rfl) (by rfl) (by first | decide | simp [Value.oneCell']) rfl ?_|refine zN rfl (hs0) rfl ?_)))
        exact ⟨⟨(⟨((14 : Nat) : Int),0,((z0 : Nat) : Int),0,0,[]⟩,(.slice none 0 0),(.slice none 0 0),[]),⟨rfl,rfl,fun h => absurd h h0⟩⟩,by (repeat (first|exact zM _|refine zI rfl ?_)),rfl,by dsimp only [vZ];exact ((own0t (e := 3)).trans ((uZ (e := 3)).trans (Ent.sel (K := [yC 3 1 (.slice none 0 0) 0 (ints []),pt n6 (.cells #[.int .i64 ((14 : Nat) : Int),.int .i64 0,.int .i64 ((z0 : Nat) : Int),.int .i64 0,.int .i64 0,(.slice none 0 0)] 52 (0,0)),pt n7 (.cells #[.int .i64 c0,.int .i64 e0] 87 (0,0)),pt n4 (.cells #[.int .i64 0,.int .i64 0,.int .i64 0,.int .i64 0,.int .i64 0,(.slice none 0 0)] 52 (0,0)),pt n5 (.cells #[.int .i64 0,.int .i64 0] 87 (0,0)),DrB d A0.rest A0.pl,yC 3 1 (.slice none 0 0) 0 (ints (vI []))]))))⟩
    | 15,_ =>
      generalize hR : xS (zQ 15).1 15 bs pl = R
      rw [show (zQ 15).1 = ⟨false,15,-1,-1,-1,0,0,false⟩ from rfl,op_B] at hR
      have hs0 := dsm_B d bs pl 15 (by omega) (by decide)
      have hu0 := uA_ok bs pl
      have ha0 := sm_a (bs := bs) (pl := pl) (most := 15)
      try unfold vY at hR
      try dsimp only at hR
      generalize smA bs pl 15 = S0 at *
      generalize uA bs pl = A0 at *
      rcases S0 with ⟨z0,c0,e0⟩
      dsimp only at hs0 ha0 hR
      by_cases h0 : c0 = 0
      · subst h0
        obtain rfl := ha0 rfl
        rw [if_neg (by simp)] at hR
        subst hR
        repeat (first|(first|refine zB ?_|refine zE ?_|refine zG ?_|refine zK ?_|refine zP ?_|refine zL rfl ?_|refine zJ rfl ?_)|(first|((first|refine zA rfl ?_);first|refine JOq (yT rfl rfl (by omega)) rfl ?_|refine JOq (yL rfl rfl (by omega)) rfl ?_|refine zD rfl rfl ?_|refine zC rfl rfl ?_|refine zF rfl rfl ?_|refine zT rfl rfl rfl ?_|refine zW rfl rfl (by first | rfl | assumption) rfl ?_|refine zO rfl rfl (by rfl) (by rfl) (by first | decide | simp [Value.oneCell']) rfl ?_|refine zN rfl (hs0) rfl ?_)))
        exact ⟨⟨(⟨((15 : Nat) : Int),0,((z0 : Nat) : Int),0,0,[]⟩,(.slice none 0 0),(.slice none 0 0),[]),⟨rfl,rfl,fun _ => rfl⟩⟩,by (repeat (first|exact zM _|refine zI rfl ?_)),rfl,by dsimp only [vZ];exact ((own0t (e := 3)).trans ((uZ (e := 3)).trans (Ent.sel (K := [yC 3 1 (.slice none 0 0) 0 (ints []),pt n6 (.cells #[.int .i64 ((15 : Nat) : Int),.int .i64 0,.int .i64 ((z0 : Nat) : Int),.int .i64 0,.int .i64 0,(.slice none 0 0)] 52 (0,0)),pt n7 (.cells #[.int .i64 0,.int .i64 0] 87 (0,0)),pt n4 (.cells #[.int .i64 0,.int .i64 0,.int .i64 0,.int .i64 0,.int .i64 0,(.slice none 0 0)] 52 (0,0)),pt n5 (.cells #[.int .i64 0,.int .i64 0] 87 (0,0)),DrB d A0.rest A0.pl,yC 3 1 (.slice none 0 0) 0 (ints (vI []))]))))⟩
      · rw [if_pos h0] at hR
        subst hR
        repeat (first|(first|refine zB ?_|refine zE ?_|refine zG ?_|refine zK ?_|refine zP ?_|refine zL rfl ?_|refine zJ rfl ?_)|(first|((first|refine zA rfl ?_);first|refine JOq (yT rfl rfl (by omega)) rfl ?_|refine JOq (yL rfl rfl (by omega)) rfl ?_|refine zD rfl rfl ?_|refine zC rfl rfl ?_|refine zF rfl rfl ?_|refine zT rfl rfl rfl ?_|refine zW rfl rfl (by first | rfl | assumption) rfl ?_|refine zO rfl rfl (by rfl) (by rfl) (by first | decide | simp [Value.oneCell']) rfl ?_|refine zN rfl (hs0) rfl ?_)))
        exact ⟨⟨(⟨((15 : Nat) : Int),0,((z0 : Nat) : Int),0,0,[]⟩,(.slice none 0 0),(.slice none 0 0),[]),⟨rfl,rfl,fun h => absurd h h0⟩⟩,by (repeat (first|exact zM _|refine zI rfl ?_)),rfl,by dsimp only [vZ];exact ((own0t (e := 3)).trans ((uZ (e := 3)).trans (Ent.sel (K := [yC 3 1 (.slice none 0 0) 0 (ints []),pt n6 (.cells #[.int .i64 ((15 : Nat) : Int),.int .i64 0,.int .i64 ((z0 : Nat) : Int),.int .i64 0,.int .i64 0,(.slice none 0 0)] 52 (0,0)),pt n7 (.cells #[.int .i64 c0,.int .i64 e0] 87 (0,0)),pt n4 (.cells #[.int .i64 0,.int .i64 0,.int .i64 0,.int .i64 0,.int .i64 0,(.slice none 0 0)] 52 (0,0)),pt n5 (.cells #[.int .i64 0,.int .i64 0] 87 (0,0)),DrB d A0.rest A0.pl,yC 3 1 (.slice none 0 0) 0 (ints (vI []))]))))⟩
    | 16,_ =>
      generalize hR : xS (zQ 16).1 16 bs pl = R
      rw [show (zQ 16).1 = ⟨false,15,15,-1,-1,0,0,true⟩ from rfl,op_L2] at hR
      have hl := dlist_c d 2 15 bs pl (by omega) (by decide) (by decide)
      have ho := listA_ok 2 15 [] bs pl
      unfold LsQ at hl
      generalize vX 2 15 [] bs pl = T at *
      rcases T with ⟨tl,tc,ta,tb,tp⟩
      dsimp only at hl ho hR
      by_cases h0 : tc = 0
      · subst h0
        obtain rfl := (ho.1 rfl).1
        rw [if_neg (by simp)] at hR
        have h2 : tl.length = 2 := (ho.1 rfl).2
        match tl,h2 with
        | [l0,l1],_ =>
        subst hR
        repeat (first|(first|refine zB ?_|refine zE ?_|refine zG ?_|refine zK ?_|refine zP ?_|refine zL rfl ?_|refine zJ rfl ?_)|(first|((first|refine zA rfl ?_);first|refine JOq (yT rfl rfl (by omega)) rfl ?_|refine JOq (yL rfl rfl (by omega)) rfl ?_|refine yK rfl hl rfl (fun v hv => ?_)|refine zD rfl rfl ?_|refine zC rfl rfl ?_|refine zT rfl rfl rfl ?_|refine zO rfl rfl (by rfl) (by rfl) (by first | decide | simp [Value.oneCell']) rfl ?_)))
        exact ⟨⟨(⟨((16 : Nat) : Int),0,0,0,0,[]⟩,(.slice none 0 0),v,[l0,l1]),⟨rfl,hv,fun _ => rfl⟩⟩,by (repeat (first|exact zM _|refine zI rfl ?_)),rfl,by dsimp only [vZ];exact ((uZ (e := 3)).trans (Ent.sel (K := [yC 3 1 (.slice none 0 0) 0 (ints []),pt n6 (.cells #[.int .i64 ((16 : Nat) : Int),.int .i64 0,.int .i64 0,.int .i64 0,.int .i64 0,(.slice none 0 0)] 52 (0,0)),pt n7 (.cells #[.int .i64 0,.int .i64 0] 87 (0,0)),pt n4 (.cells #[.int .i64 0,.int .i64 0,.int .i64 0,.int .i64 0,.int .i64 0,(.slice none 0 0)] 52 (0,0)),pt n5 (.cells #[.int .i64 0,.int .i64 0] 87 (0,0)),DrB d tb tp,yC 3 1 v [l0,l1].length (ints (vI [l0,l1]))])))⟩
      · rw [if_pos h0] at hR
        subst hR
        repeat (first|(first|refine zB ?_|refine zE ?_|refine zG ?_|refine zK ?_|refine zP ?_|refine zL rfl ?_|refine zJ rfl ?_)|(first|((first|refine zA rfl ?_);first|refine JOq (yT rfl rfl (by omega)) rfl ?_|refine JOq (yL rfl rfl (by omega)) rfl ?_|refine yK rfl hl rfl (fun v hv => ?_)|refine zD rfl rfl ?_|refine zC rfl rfl ?_|refine zT rfl rfl rfl ?_|refine zO rfl rfl (by rfl) (by rfl) (by first | decide | simp [Value.oneCell']) rfl ?_)))
        exact ⟨⟨(⟨((16 : Nat) : Int),0,0,0,0,[]⟩,(.slice none 0 0),v,tl),⟨rfl,hv,fun h => absurd h h0⟩⟩,by (repeat (first|exact zM _|refine zI rfl ?_)),rfl,by dsimp only [vZ];exact ((uZ (e := 3)).trans (Ent.sel (K := [yC 3 1 (.slice none 0 0) 0 (ints []),pt n6 (.cells #[.int .i64 ((16 : Nat) : Int),.int .i64 0,.int .i64 0,.int .i64 0,.int .i64 0,(.slice none 0 0)] 52 (0,0)),pt n7 (.cells #[.int .i64 tc,.int .i64 ta] 87 (0,0)),pt n4 (.cells #[.int .i64 0,.int .i64 0,.int .i64 0,.int .i64 0,.int .i64 0,(.slice none 0 0)] 52 (0,0)),pt n5 (.cells #[.int .i64 0,.int .i64 0] 87 (0,0)),DrB d tb tp,yC 3 1 v tl.length (ints (vI tl))])))⟩
    | 17,_ =>
      generalize hR : xS (zQ 17).1 17 bs pl = R
      rw [show (zQ 17).1 = ⟨false,15,15,-1,-1,0,0,true⟩ from rfl,op_L2] at hR
      have hl := dlist_c d 2 15 bs pl (by omega) (by decide) (by decide)
      have ho := listA_ok 2 15 [] bs pl
      unfold LsQ at hl
      generalize vX 2 15 [] bs pl = T at *
      rcases T with ⟨tl,tc,ta,tb,tp⟩
      dsimp only at hl ho hR
      by_cases h0 : tc = 0
      · subst h0
        obtain rfl := (ho.1 rfl).1
        rw [if_neg (by simp)] at hR
        have h2 : tl.length = 2 := (ho.1 rfl).2
        match tl,h2 with
        | [l0,l1],_ =>
        subst hR
        repeat (first|(first|refine zB ?_|refine zE ?_|refine zG ?_|refine zK ?_|refine zP ?_|refine zL rfl ?_|refine zJ rfl ?_)|(first|((first|refine zA rfl ?_);first|refine JOq (yT rfl rfl (by omega)) rfl ?_|refine JOq (yL rfl rfl (by omega)) rfl ?_|refine yK rfl hl rfl (fun v hv => ?_)|refine zD rfl rfl ?_|refine zC rfl rfl ?_|refine zT rfl rfl rfl ?_|refine zO rfl rfl (by rfl) (by rfl) (by first | decide | simp [Value.oneCell']) rfl ?_)))
        exact ⟨⟨(⟨((17 : Nat) : Int),0,0,0,0,[]⟩,(.slice none 0 0),v,[l0,l1]),⟨rfl,hv,fun _ => rfl⟩⟩,by (repeat (first|exact zM _|refine zI rfl ?_)),rfl,by dsimp only [vZ];exact ((uZ (e := 3)).trans (Ent.sel (K := [yC 3 1 (.slice none 0 0) 0 (ints []),pt n6 (.cells #[.int .i64 ((17 : Nat) : Int),.int .i64 0,.int .i64 0,.int .i64 0,.int .i64 0,(.slice none 0 0)] 52 (0,0)),pt n7 (.cells #[.int .i64 0,.int .i64 0] 87 (0,0)),pt n4 (.cells #[.int .i64 0,.int .i64 0,.int .i64 0,.int .i64 0,.int .i64 0,(.slice none 0 0)] 52 (0,0)),pt n5 (.cells #[.int .i64 0,.int .i64 0] 87 (0,0)),DrB d tb tp,yC 3 1 v [l0,l1].length (ints (vI [l0,l1]))])))⟩
      · rw [if_pos h0] at hR
        subst hR
        repeat (first|(first|refine zB ?_|refine zE ?_|refine zG ?_|refine zK ?_|refine zP ?_|refine zL rfl ?_|refine zJ rfl ?_)|(first|((first|refine zA rfl ?_);first|refine JOq (yT rfl rfl (by omega)) rfl ?_|refine JOq (yL rfl rfl (by omega)) rfl ?_|refine yK rfl hl rfl (fun v hv => ?_)|refine zD rfl rfl ?_|refine zC rfl rfl ?_|refine zT rfl rfl rfl ?_|refine zO rfl rfl (by rfl) (by rfl) (by first | decide | simp [Value.oneCell']) rfl ?_)))
        exact ⟨⟨(⟨((17 : Nat) : Int),0,0,0,0,[]⟩,(.slice none 0 0),v,tl),⟨rfl,hv,fun h => absurd h h0⟩⟩,by (repeat (first|exact zM _|refine zI rfl ?_)),rfl,by dsimp only [vZ];exact ((uZ (e := 3)).trans (Ent.sel (K := [yC 3 1 (.slice none 0 0) 0 (ints []),pt n6 (.cells #[.int .i64 ((17 : Nat) : Int),.int .i64 0,.int .i64 0,.int .i64 0,.int .i64 0,(.slice none 0 0)] 52 (0,0)),pt n7 (.cells #[.int .i64 tc,.int .i64 ta] 87 (0,0)),pt n4 (.cells #[.int .i64 0,.int .i64 0,.int .i64 0,.int .i64 0,.int .i64 0,(.slice none 0 0)] 52 (0,0)),pt n5 (.cells #[.int .i64 0,.int .i64 0] 87 (0,0)),DrB d tb tp,yC 3 1 v tl.length (ints (vI tl))])))⟩
    | 18,_ =>
      generalize hR : xS (zQ 18).1 18 bs pl = R
      rw [show (zQ 18).1 = ⟨false,15,7,-1,-1,0,0,false⟩ from rfl,op_sel] at hR
      have hs0 := dsm_B d bs pl 15 (by omega) (by decide)
      have hu0 := uA_ok bs pl
      have ha0 := sm_a (bs := bs) (pl := pl) (most := 15)
      try unfold vY at hR
      try dsimp only at hR
      generalize smA bs pl 15 = S0 at *
      generalize uA bs pl = A0 at *
      rcases S0 with ⟨z0,c0,e0⟩
      dsimp only at hs0 ha0 hR
      by_cases h0 : c0 = 0
      · subst h0
        obtain rfl := ha0 rfl
        rw [if_neg (by simp)] at hR
        have hs1 := dsm_B d A0.rest A0.pl 7 (by omega) (by decide)
        have hu1 := uA_ok A0.rest A0.pl
        have ha1 := sm_a (bs := A0.rest) (pl := A0.pl) (most := 7)
        try unfold vY at hR
        try dsimp only at hR
        generalize smA A0.rest A0.pl 7 = S1 at *
        generalize uA A0.rest A0.pl = A1 at *
        rcases S1 with ⟨z1,c1,e1⟩
        dsimp only at hs1 ha1 hR
        by_cases h1 : c1 = 0
        · subst h1
          obtain rfl := ha1 rfl
          rw [if_neg (by simp)] at hR
          subst hR
          repeat (first|(first|refine zB ?_|refine zE ?_|refine zG ?_|refine zK ?_|refine zL rfl ?_|refine zJ rfl ?_)|(first|((first|refine zA rfl ?_);first|refine JOq (yT rfl rfl (by omega)) rfl ?_|refine JOq (yL rfl rfl (by omega)) rfl ?_|refine zD rfl rfl ?_|refine zC rfl rfl ?_|refine zF rfl rfl ?_|refine zH rfl rfl ?_|refine zT rfl rfl rfl ?_|refine zW rfl rfl (by first | rfl | assumption) rfl ?_|refine zO rfl rfl (by rfl) (by rfl) (by first | decide | simp [Value.oneCell']) rfl ?_|refine zN rfl (hs0) rfl ?_|refine zN rfl (hs1) rfl ?_)))
          exact ⟨⟨(⟨((18 : Nat) : Int),0,((z0 : Nat) : Int),((z1 : Nat) : Int),0,[]⟩,(.slice none 0 0),(.slice none 0 0),[]),⟨rfl,rfl,fun _ => rfl⟩⟩,by (repeat (first|exact zM _|refine zI rfl ?_)),rfl,by dsimp only [vZ];exact ((own0t (e := 3)).trans ((uZ (e := 3)).trans (Ent.sel (K := [yC 3 1 (.slice none 0 0) 0 (ints []),pt n6 (.cells #[.int .i64 ((18 : Nat) : Int),.int .i64 0,.int .i64 ((z0 : Nat) : Int),.int .i64 ((z1 : Nat) : Int),.int .i64 0,(.slice none 0 0)] 52 (0,0)),pt n7 (.cells #[.int .i64 0,.int .i64 0] 87 (0,0)),pt n4 (.cells #[.int .i64 0,.int .i64 0,.int .i64 0,.int .i64 0,.int .i64 0,(.slice none 0 0)] 52 (0,0)),pt n5 (.cells #[.int .i64 0,.int .i64 0] 87 (0,0)),DrB d A1.rest A1.pl,yC 3 1 (.slice none 0 0) 0 (ints (vI []))]))))⟩
        · rw [if_pos h1] at hR
          subst hR
          repeat (first|(first|refine zB ?_|refine zE ?_|refine zG ?_|refine zK ?_|refine zL rfl ?_|refine zJ rfl ?_)|(first|((first|refine zA rfl ?_);first|refine JOq (yT rfl rfl (by omega)) rfl ?_|refine JOq (yL rfl rfl (by omega)) rfl ?_|refine zD rfl rfl ?_|refine zC rfl rfl ?_|refine zF rfl rfl ?_|refine zH rfl rfl ?_|refine zT rfl rfl rfl ?_|refine zW rfl rfl (by first | rfl | assumption) rfl ?_|refine zO rfl rfl (by rfl) (by rfl) (by first | decide | simp [Value.oneCell']) rfl ?_|refine zN rfl (hs0) rfl ?_|refine zN rfl (hs1) rfl ?_)))
          exact ⟨⟨(⟨((18 : Nat) : Int),0,((z0 : Nat) : Int),((z1 : Nat) : Int),0,[]⟩,(.slice none 0 0),(.slice none 0 0),[]),⟨rfl,rfl,fun h => absurd h h1⟩⟩,by (repeat (first|exact zM _|refine zI rfl ?_)),rfl,by dsimp only [vZ];exact ((own0t (e := 3)).trans ((uZ (e := 3)).trans (Ent.sel (K := [yC 3 1 (.slice none 0 0) 0 (ints []),pt n6 (.cells #[.int .i64 ((18 : Nat) : Int),.int .i64 0,.int .i64 ((z0 : Nat) : Int),.int .i64 ((z1 : Nat) : Int),.int .i64 0,(.slice none 0 0)] 52 (0,0)),pt n7 (.cells #[.int .i64 c1,.int .i64 e1] 87 (0,0)),pt n4 (.cells #[.int .i64 0,.int .i64 0,.int .i64 0,.int .i64 0,.int .i64 0,(.slice none 0 0)] 52 (0,0)),pt n5 (.cells #[.int .i64 0,.int .i64 0] 87 (0,0)),DrB d A1.rest A1.pl,yC 3 1 (.slice none 0 0) 0 (ints (vI []))]))))⟩
      · rw [if_pos h0] at hR
        subst hR
        repeat (first|(first|refine zB ?_|refine zE ?_|refine zG ?_|refine zK ?_|refine zP ?_|refine zL rfl ?_|refine zJ rfl ?_)|(first|((first|refine zA rfl ?_);first|refine JOq (yT rfl rfl (by omega)) rfl ?_|refine JOq (yL rfl rfl (by omega)) rfl ?_|refine zD rfl rfl ?_|refine zC rfl rfl ?_|refine zF rfl rfl ?_|refine zH rfl rfl ?_|refine zT rfl rfl rfl ?_|refine zW rfl rfl (by first | rfl | assumption) rfl ?_|refine zO rfl rfl (by rfl) (by rfl) (by first | decide | simp [Value.oneCell']) rfl ?_|refine zN rfl (hs0) rfl ?_)))
        exact ⟨⟨(⟨((18 : Nat) : Int),0,((z0 : Nat) : Int),0,0,[]⟩,(.slice none 0 0),(.slice none 0 0),[]),⟨rfl,rfl,fun h => absurd h h0⟩⟩,by (repeat (first|exact zM _|refine zI rfl ?_)),rfl,by dsimp only [vZ];exact ((own0t (e := 3)).trans ((uZ (e := 3)).trans (Ent.sel (K := [yC 3 1 (.slice none 0 0) 0 (ints []),pt n6 (.cells #[.int .i64 ((18 : Nat) : Int),.int .i64 0,.int .i64 ((z0 : Nat) : Int),.int .i64 0,.int .i64 0,(.slice none 0 0)] 52 (0,0)),pt n7 (.cells #[.int .i64 c0,.int .i64 e0] 87 (0,0)),pt n4 (.cells #[.int .i64 0,.int .i64 0,.int .i64 0,.int .i64 0,.int .i64 0,(.slice none 0 0)] 52 (0,0)),pt n5 (.cells #[.int .i64 0,.int .i64 0] 87 (0,0)),DrB d A0.rest A0.pl,yC 3 1 (.slice none 0 0) 0 (ints (vI []))]))))⟩
    | 19,_ =>
      generalize hR : xS (zQ 19).1 19 bs pl = R
      rw [show (zQ 19).1 = ⟨false,15,-1,-1,127,1,8,false⟩ from rfl,op_cnt (by decide)] at hR
      have hs0 := dsm_B d bs pl 15 (by omega) (by decide)
      have hu0 := uA_ok bs pl
      have ha0 := sm_a (bs := bs) (pl := pl) (most := 15)
      try unfold vY at hR
      try dsimp only at hR
      generalize smA bs pl 15 = S0 at *
      generalize uA bs pl = A0 at *
      rcases S0 with ⟨z0,c0,e0⟩
      dsimp only at hs0 ha0 hR
      by_cases h0 : c0 = 0
      · subst h0
        obtain rfl := ha0 rfl
        rw [if_neg (by simp)] at hR
        have hl := dcounted_c d 8 127 A0.rest A0.pl (by omega) (by decide) (by decide)
        have ho := cntA_ok 8 127 A0.rest A0.pl
        unfold LsQ at hl
        generalize cntA 8 127 A0.rest A0.pl = T at *
        rcases T with ⟨tl,tc,ta,tb,tp⟩
        dsimp only at hl ho hR
        by_cases h0 : tc = 0
        · subst h0
          obtain rfl := (ho.1 rfl).1
          rw [if_neg (by simp)] at hR
          subst hR
          repeat (first|(first|refine zB ?_|refine zE ?_|refine zG ?_|refine zK ?_|refine zL rfl ?_|refine zJ rfl ?_)|(first|((first|refine zA rfl ?_);first|refine JOq (yT rfl rfl (by omega)) rfl ?_|refine JOq (yL rfl rfl (by omega)) rfl ?_|refine yK rfl hl rfl (fun v hv => ?_)|refine zD rfl rfl ?_|refine zC rfl rfl ?_|refine zF rfl rfl ?_|refine zH rfl rfl ?_|refine zT rfl rfl rfl ?_|refine zW rfl rfl (by first | rfl | assumption) rfl ?_|refine zO rfl rfl (by rfl) (by rfl) (by first | decide | simp [Value.oneCell']) rfl ?_|refine zN rfl (hs0) rfl ?_)))
          exact ⟨⟨(⟨((19 : Nat) : Int),0,((z0 : Nat) : Int),0,0,vI tl⟩,v,(.slice none 0 0),[]),⟨hv,rfl,fun _ => rfl⟩⟩,by (repeat (first|exact zM _|refine zI rfl ?_)),rfl,by dsimp only [vZ];rw [natI_len];exact ((own0t (e := 3)).trans (Ent.sel (K := [yC 3 1 v tl.length (ints (vI tl)),pt n6 (.cells #[.int .i64 ((19 : Nat) : Int),.int .i64 0,.int .i64 ((z0 : Nat) : Int),.int .i64 0,.int .i64 0,v] 52 (0,0)),pt n7 (.cells #[.int .i64 0,.int .i64 0] 87 (0,0)),pt n4 (.cells #[.int .i64 0,.int .i64 0,.int .i64 0,.int .i64 0,.int .i64 0,(.slice none 0 0)] 52 (0,0)),pt n5 (.cells #[.int .i64 0,.int .i64 0] 87 (0,0)),DrB d tb tp,yC 3 1 (.slice none 0 0) 0 (ints (vI []))])))⟩
        · rw [if_pos h0] at hR
          subst hR
          repeat (first|(first|refine zB ?_|refine zE ?_|refine zG ?_|refine zK ?_|refine zL rfl ?_|refine zJ rfl ?_)|(first|((first|refine zA rfl ?_);first|refine JOq (yT rfl rfl (by omega)) rfl ?_|refine JOq (yL rfl rfl (by omega)) rfl ?_|refine yK rfl hl rfl (fun v hv => ?_)|refine zD rfl rfl ?_|refine zC rfl rfl ?_|refine zF rfl rfl ?_|refine zH rfl rfl ?_|refine zT rfl rfl rfl ?_|refine zW rfl rfl (by first | rfl | assumption) rfl ?_|refine zO rfl rfl (by rfl) (by rfl) (by first | decide | simp [Value.oneCell']) rfl ?_|refine zN rfl (hs0) rfl ?_)))
          exact ⟨⟨(⟨((19 : Nat) : Int),0,((z0 : Nat) : Int),0,0,vI tl⟩,v,(.slice none 0 0),[]),⟨hv,rfl,fun h => absurd h h0⟩⟩,by (repeat (first|exact zM _|refine zI rfl ?_)),rfl,by dsimp only [vZ];rw [natI_len];exact ((own0t (e := 3)).trans (Ent.sel (K := [yC 3 1 v tl.length (ints (vI tl)),pt n6 (.cells #[.int .i64 ((19 : Nat) : Int),.int .i64 0,.int .i64 ((z0 : Nat) : Int),.int .i64 0,.int .i64 0,v] 52 (0,0)),pt n7 (.cells #[.int .i64 tc,.int .i64 ta] 87 (0,0)),pt n4 (.cells #[.int .i64 0,.int .i64 0,.int .i64 0,.int .i64 0,.int .i64 0,(.slice none 0 0)] 52 (0,0)),pt n5 (.cells #[.int .i64 0,.int .i64 0] 87 (0,0)),DrB d tb tp,yC 3 1 (.slice none 0 0) 0 (ints (vI []))])))⟩
      · rw [if_pos h0] at hR
        subst hR
        repeat (first|(first|refine zB ?_|refine zE ?_|refine zG ?_|refine zK ?_|refine zP ?_|refine zL rfl ?_|refine zJ rfl ?_)|(first|((first|refine zA rfl ?_);first|refine JOq (yT rfl rfl (by omega)) rfl ?_|refine JOq (yL rfl rfl (by omega)) rfl ?_|refine zD rfl rfl ?_|refine zC rfl rfl ?_|refine zF rfl rfl ?_|refine zH rfl rfl ?_|refine zT rfl rfl rfl ?_|refine zW rfl rfl (by first | rfl | assumption) rfl ?_|refine zO rfl rfl (by rfl) (by rfl) (by first | decide | simp [Value.oneCell']) rfl ?_|refine zN rfl (hs0) rfl ?_)))
        exact ⟨⟨(⟨((19 : Nat) : Int),0,((z0 : Nat) : Int),0,0,[]⟩,(.slice none 0 0),(.slice none 0 0),[]),⟨rfl,rfl,fun h => absurd h h0⟩⟩,by (repeat (first|exact zM _|refine zI rfl ?_)),rfl,by dsimp only [vZ];exact ((own0t (e := 3)).trans ((uZ (e := 3)).trans (Ent.sel (K := [yC 3 1 (.slice none 0 0) 0 (ints []),pt n6 (.cells #[.int .i64 ((19 : Nat) : Int),.int .i64 0,.int .i64 ((z0 : Nat) : Int),.int .i64 0,.int .i64 0,(.slice none 0 0)] 52 (0,0)),pt n7 (.cells #[.int .i64 c0,.int .i64 e0] 87 (0,0)),pt n4 (.cells #[.int .i64 0,.int .i64 0,.int .i64 0,.int .i64 0,.int .i64 0,(.slice none 0 0)] 52 (0,0)),pt n5 (.cells #[.int .i64 0,.int .i64 0] 87 (0,0)),DrB d A0.rest A0.pl,yC 3 1 (.slice none 0 0) 0 (ints (vI []))]))))⟩
    | 20,_ =>
      generalize hR : xS (zQ 20).1 20 bs pl = R
      rw [show (zQ 20).1 = ⟨false,63,-1,1000,15,2,2,true⟩ from rfl,op_new] at hR
      have hs0 := dsm_B d bs pl 63 (by omega) (by decide)
      have hu0 := uA_ok bs pl
      have ha0 := sm_a (bs := bs) (pl := pl) (most := 63)
      try unfold vY at hR
      try dsimp only at hR
      generalize smA bs pl 63 = S0 at *
      generalize uA bs pl = A0 at *
      rcases S0 with ⟨z0,c0,e0⟩
      dsimp only at hs0 ha0 hR
      by_cases h0 : c0 = 0
      · subst h0
        obtain rfl := ha0 rfl
        rw [if_neg (by simp)] at hR
        have hs1 := dsm_B d A0.rest A0.pl 1000 (by omega) (by decide)
        have hu1 := uA_ok A0.rest A0.pl
        have ha1 := sm_a (bs := A0.rest) (pl := A0.pl) (most := 1000)
        try unfold vY at hR
        try dsimp only at hR
        generalize smA A0.rest A0.pl 1000 = S1 at *
        generalize uA A0.rest A0.pl = A1 at *
        rcases S1 with ⟨z1,c1,e1⟩
        dsimp only at hs1 ha1 hR
        by_cases h1 : c1 = 0
        · subst h1
          obtain rfl := ha1 rfl
          rw [if_neg (by simp)] at hR
          have hl := dlist_c d 2 15 A1.rest A1.pl (by omega) (by decide) (by decide)
          have ho := listA_ok 2 15 [] A1.rest A1.pl
          unfold LsQ at hl
          generalize vX 2 15 [] A1.rest A1.pl = T at *
          rcases T with ⟨tl,tc,ta,tb,tp⟩
          dsimp only at hl ho hR
          by_cases h0 : tc = 0
          · subst h0
            obtain rfl := (ho.1 rfl).1
            rw [if_neg (by simp)] at hR
            subst hR
            repeat (first|(first|refine zB ?_|refine zE ?_|refine zG ?_|refine zK ?_|refine zL rfl ?_|refine zJ rfl ?_)|(first|((first|refine zA rfl ?_);first|refine JOq (yT rfl rfl (by omega)) rfl ?_|refine JOq (yL rfl rfl (by omega)) rfl ?_|refine yK rfl hl rfl (fun v hv => ?_)|refine zD rfl rfl ?_|refine zC rfl rfl ?_|refine zF rfl rfl ?_|refine zH rfl rfl ?_|refine zT rfl rfl rfl ?_|refine zW rfl rfl (by first | rfl | assumption) rfl ?_|refine zO rfl rfl (by rfl) (by rfl) (by first | decide | simp [Value.oneCell']) rfl ?_|refine zN rfl (hs0) rfl ?_|refine zN rfl (hs1) rfl ?_)))
            exact ⟨⟨(⟨((20 : Nat) : Int),0,((z0 : Nat) : Int),0,((z1 : Nat) : Int),vI tl⟩,v,(.slice none 0 0),[]),⟨hv,rfl,fun _ => rfl⟩⟩,by (repeat (first|exact zM _|refine zI rfl ?_)),rfl,by dsimp only [vZ];rw [natI_len];exact ((own0t (e := 3)).trans (Ent.sel (K := [yC 3 1 v tl.length (ints (vI tl)),pt n6 (.cells #[.int .i64 ((20 : Nat) : Int),.int .i64 0,.int .i64 ((z0 : Nat) : Int),.int .i64 0,.int .i64 ((z1 : Nat) : Int),v] 52 (0,0)),pt n7 (.cells #[.int .i64 0,.int .i64 0] 87 (0,0)),pt n4 (.cells #[.int .i64 0,.int .i64 0,.int .i64 0,.int .i64 0,.int .i64 0,(.slice none 0 0)] 52 (0,0)),pt n5 (.cells #[.int .i64 0,.int .i64 0] 87 (0,0)),DrB d tb tp,yC 3 1 (.slice none 0 0) 0 (ints (vI []))])))⟩
          · rw [if_pos h0] at hR
            subst hR
            repeat (first|(first|refine zB ?_|refine zE ?_|refine zG ?_|refine zK ?_|refine zL rfl ?_|refine zJ rfl ?_)|(first|((first|refine zA rfl ?_);first|refine JOq (yT rfl rfl (by omega)) rfl ?_|refine JOq (yL rfl rfl (by omega)) rfl ?_|refine yK rfl hl rfl (fun v hv => ?_)|refine zD rfl rfl ?_|refine zC rfl rfl ?_|refine zF rfl rfl ?_|refine zH rfl rfl ?_|refine zT rfl rfl rfl ?_|refine zW rfl rfl (by first | rfl | assumption) rfl ?_|refine zO rfl rfl (by rfl) (by rfl) (by first | decide | simp [Value.oneCell']) rfl ?_|refine zN rfl (hs0) rfl ?_|refine zN rfl (hs1) rfl ?_)))
            exact ⟨⟨(⟨((20 : Nat) : Int),0,((z0 : Nat) : Int),0,((z1 : Nat) : Int),vI tl⟩,v,(.slice none 0 0),[]),⟨hv,rfl,fun h => absurd h h0⟩⟩,by (repeat (first|exact zM _|refine zI rfl ?_)),rfl,by dsimp only [vZ];rw [natI_len];exact ((own0t (e := 3)).trans (Ent.sel (K := [yC 3 1 v tl.length (ints (vI tl)),pt n6 (.cells #[.int .i64 ((20 : Nat) : Int),.int .i64 0,.int .i64 ((z0 : Nat) : Int),.int .i64 0,.int .i64 ((z1 : Nat) : Int),v] 52 (0,0)),pt n7 (.cells #[.int .i64 tc,.int .i64 ta] 87 (0,0)),pt n4 (.cells #[.int .i64 0,.int .i64 0,.int .i64 0,.int .i64 0,.int .i64 0,(.slice none 0 0)] 52 (0,0)),pt n5 (.cells #[.int .i64 0,.int .i64 0] 87 (0,0)),DrB d tb tp,yC 3 1 (.slice none 0 0) 0 (ints (vI []))])))⟩
        · rw [if_pos h1] at hR
          subst hR
          repeat (first|(first|refine zB ?_|refine zE ?_|refine zG ?_|refine zK ?_|refine zP ?_|refine zL rfl ?_|refine zJ rfl ?_)|(first|((first|refine zA rfl ?_);first|refine JOq (yT rfl rfl (by omega)) rfl ?_|refine JOq (yL rfl rfl (by omega)) rfl ?_|refine zD rfl rfl ?_|refine zC rfl rfl ?_|refine zF rfl rfl ?_|refine zH rfl rfl ?_|refine zT rfl rfl rfl ?_|refine zW rfl rfl (by first | rfl | assumption) rfl ?_|refine zO rfl rfl (by rfl) (by rfl) (by first | decide | simp [Value.oneCell']) rfl ?_|refine zN rfl (hs0) rfl ?_|refine zN rfl (hs1) rfl ?_)))
          exact ⟨⟨(⟨((20 : Nat) : Int),0,((z0 : Nat) : Int),0,((z1 : Nat) : Int),[]⟩,(.slice none 0 0),(.slice none 0 0),[]),⟨rfl,rfl,fun h => absurd h h1⟩⟩,by (repeat (first|exact zM _|refine zI rfl ?_)),rfl,by dsimp only [vZ];exact ((own0t (e := 3)).trans ((uZ (e := 3)).trans (Ent.sel (K := [yC 3 1 (.slice none 0 0) 0 (ints []),pt n6 (.cells #[.int .i64 ((20 : Nat) : Int),.int .i64 0,.int .i64 ((z0 : Nat) : Int),.int .i64 0,.int .i64 ((z1 : Nat) : Int),(.slice none 0 0)] 52 (0,0)),pt n7 (.cells #[.int .i64 c1,.int .i64 e1] 87 (0,0)),pt n4 (.cells #[.int .i64 0,.int .i64 0,.int .i64 0,.int .i64 0,.int .i64 0,(.slice none 0 0)] 52 (0,0)),pt n5 (.cells #[.int .i64 0,.int .i64 0] 87 (0,0)),DrB d A1.rest A1.pl,yC 3 1 (.slice none 0 0) 0 (ints (vI []))]))))⟩
      · rw [if_pos h0] at hR
        subst hR
        repeat (first|(first|refine zB ?_|refine zE ?_|refine zG ?_|refine zK ?_|refine zP ?_|refine zL rfl ?_|refine zJ rfl ?_)|(first|((first|refine zA rfl ?_);first|refine JOq (yT rfl rfl (by omega)) rfl ?_|refine JOq (yL rfl rfl (by omega)) rfl ?_|refine zD rfl rfl ?_|refine zC rfl rfl ?_|refine zF rfl rfl ?_|refine zH rfl rfl ?_|refine zT rfl rfl rfl ?_|refine zW rfl rfl (by first | rfl | assumption) rfl ?_|refine zO rfl rfl (by rfl) (by rfl) (by first | decide | simp [Value.oneCell']) rfl ?_|refine zN rfl (hs0) rfl ?_)))
        exact ⟨⟨(⟨((20 : Nat) : Int),0,((z0 : Nat) : Int),0,0,[]⟩,(.slice none 0 0),(.slice none 0 0),[]),⟨rfl,rfl,fun h => absurd h h0⟩⟩,by (repeat (first|exact zM _|refine zI rfl ?_)),rfl,by dsimp only [vZ];exact ((own0t (e := 3)).trans ((uZ (e := 3)).trans (Ent.sel (K := [yC 3 1 (.slice none 0 0) 0 (ints []),pt n6 (.cells #[.int .i64 ((20 : Nat) : Int),.int .i64 0,.int .i64 ((z0 : Nat) : Int),.int .i64 0,.int .i64 0,(.slice none 0 0)] 52 (0,0)),pt n7 (.cells #[.int .i64 c0,.int .i64 e0] 87 (0,0)),pt n4 (.cells #[.int .i64 0,.int .i64 0,.int .i64 0,.int .i64 0,.int .i64 0,(.slice none 0 0)] 52 (0,0)),pt n5 (.cells #[.int .i64 0,.int .i64 0] 87 (0,0)),DrB d A0.rest A0.pl,yC 3 1 (.slice none 0 0) 0 (ints (vI []))]))))⟩
    | 21,_ =>
      generalize hR : xS (zQ 21).1 21 bs pl = R
      rw [show (zQ 21).1 = ⟨false,15,-1,-1,15,0,8,true⟩ from rfl,op_cnt (by decide)] at hR
      have hs0 := dsm_B d bs pl 15 (by omega) (by decide)
      have hu0 := uA_ok bs pl
      have ha0 := sm_a (bs := bs) (pl := pl) (most := 15)
      try unfold vY at hR
      try dsimp only at hR
      generalize smA bs pl 15 = S0 at *
      generalize uA bs pl = A0 at *
      rcases S0 with ⟨z0,c0,e0⟩
      dsimp only at hs0 ha0 hR
      by_cases h0 : c0 = 0
      · subst h0
        obtain rfl := ha0 rfl
        rw [if_neg (by simp)] at hR
        have hl := dcounted_c d 8 15 A0.rest A0.pl (by omega) (by decide) (by decide)
        have ho := cntA_ok 8 15 A0.rest A0.pl
        unfold LsQ at hl
        generalize cntA 8 15 A0.rest A0.pl = T at *
        rcases T with ⟨tl,tc,ta,tb,tp⟩
        dsimp only at hl ho hR
        by_cases h0 : tc = 0
        · subst h0
          obtain rfl := (ho.1 rfl).1
          rw [if_neg (by simp)] at hR
          subst hR
          repeat (first|(first|refine zB ?_|refine zE ?_|refine zG ?_|refine zK ?_|refine zL rfl ?_|refine zJ rfl ?_)|(first|((first|refine zA rfl ?_);first|refine JOq (yT rfl rfl (by omega)) rfl ?_|refine JOq (yL rfl rfl (by omega)) rfl ?_|refine yK rfl hl rfl (fun v hv => ?_)|refine zD rfl rfl ?_|refine zC rfl rfl ?_|refine zF rfl rfl ?_|refine zH rfl rfl ?_|refine zT rfl rfl rfl ?_|refine zW rfl rfl (by first | rfl | assumption) rfl ?_|refine zO rfl rfl (by rfl) (by rfl) (by first | decide | simp [Value.oneCell']) rfl ?_|refine zN rfl (hs0) rfl ?_)))
          exact ⟨⟨(⟨((21 : Nat) : Int),0,((z0 : Nat) : Int),0,0,vI tl⟩,v,(.slice none 0 0),[]),⟨hv,rfl,fun _ => rfl⟩⟩,by (repeat (first|exact zM _|refine zI rfl ?_)),rfl,by dsimp only [vZ];rw [natI_len];exact ((own0t (e := 3)).trans (Ent.sel (K := [yC 3 1 v tl.length (ints (vI tl)),pt n6 (.cells #[.int .i64 ((21 : Nat) : Int),.int .i64 0,.int .i64 ((z0 : Nat) : Int),.int .i64 0,.int .i64 0,v] 52 (0,0)),pt n7 (.cells #[.int .i64 0,.int .i64 0] 87 (0,0)),pt n4 (.cells #[.int .i64 0,.int .i64 0,.int .i64 0,.int .i64 0,.int .i64 0,(.slice none 0 0)] 52 (0,0)),pt n5 (.cells #[.int .i64 0,.int .i64 0] 87 (0,0)),DrB d tb tp,yC 3 1 (.slice none 0 0) 0 (ints (vI []))])))⟩
        · rw [if_pos h0] at hR
          subst hR
          repeat (first|(first|refine zB ?_|refine zE ?_|refine zG ?_|refine zK ?_|refine zL rfl ?_|refine zJ rfl ?_)|(first|((first|refine zA rfl ?_);first|refine JOq (yT rfl rfl (by omega)) rfl ?_|refine JOq (yL rfl rfl (by omega)) rfl ?_|refine yK rfl hl rfl (fun v hv => ?_)|refine zD rfl rfl ?_|refine zC rfl rfl ?_|refine zF rfl rfl ?_|refine zH rfl rfl ?_|refine zT rfl rfl rfl ?_|refine zW rfl rfl (by first | rfl | assumption) rfl ?_|refine zO rfl rfl (by rfl) (by rfl) (by first | decide | simp [Value.oneCell']) rfl ?_|refine zN rfl (hs0) rfl ?_)))
          exact ⟨⟨(⟨((21 : Nat) : Int),0,((z0 : Nat) : Int),0,0,vI tl⟩,v,(.slice none 0 0),[]),⟨hv,rfl,fun h => absurd h h0⟩⟩,by (repeat (first|exact zM _|refine zI rfl ?_)),rfl,by dsimp only [vZ];rw [natI_len];exact ((own0t (e := 3)).trans (Ent.sel (K := [yC 3 1 v tl.length (ints (vI tl)),pt n6 (.cells #[.int .i64 ((21 : Nat) : Int),.int .i64 0,.int .i64 ((z0 : Nat) : Int),.int .i64 0,.int .i64 0,v] 52 (0,0)),pt n7 (.cells #[.int .i64 tc,.int .i64 ta] 87 (0,0)),pt n4 (.cells #[.int .i64 0,.int .i64 0,.int .i64 0,.int .i64 0,.int .i64 0,(.slice none 0 0)] 52 (0,0)),pt n5 (.cells #[.int .i64 0,.int .i64 0] 87 (0,0)),DrB d tb tp,yC 3 1 (.slice none 0 0) 0 (ints (vI []))])))⟩
      · rw [if_pos h0] at hR
        subst hR
        repeat (first|(first|refine zB ?_|refine zE ?_|refine zG ?_|refine zK ?_|refine zP ?_|refine zL rfl ?_|refine zJ rfl ?_)|(first|((first|refine zA rfl ?_);first|refine JOq (yT rfl rfl (by omega)) rfl ?_|refine JOq (yL rfl rfl (by omega)) rfl ?_|refine zD rfl rfl ?_|refine zC rfl rfl ?_|refine zF rfl rfl ?_|refine zH rfl rfl ?_|refine zT rfl rfl rfl ?_|refine zW rfl rfl (by first | rfl | assumption) rfl ?_|refine zO rfl rfl (by rfl) (by rfl) (by first | decide | simp [Value.oneCell']) rfl ?_|refine zN rfl (hs0) rfl ?_)))
        exact ⟨⟨(⟨((21 : Nat) : Int),0,((z0 : Nat) : Int),0,0,[]⟩,(.slice none 0 0),(.slice none 0 0),[]),⟨rfl,rfl,fun h => absurd h h0⟩⟩,by (repeat (first|exact zM _|refine zI rfl ?_)),rfl,by dsimp only [vZ];exact ((own0t (e := 3)).trans ((uZ (e := 3)).trans (Ent.sel (K := [yC 3 1 (.slice none 0 0) 0 (ints []),pt n6 (.cells #[.int .i64 ((21 : Nat) : Int),.int .i64 0,.int .i64 ((z0 : Nat) : Int),.int .i64 0,.int .i64 0,(.slice none 0 0)] 52 (0,0)),pt n7 (.cells #[.int .i64 c0,.int .i64 e0] 87 (0,0)),pt n4 (.cells #[.int .i64 0,.int .i64 0,.int .i64 0,.int .i64 0,.int .i64 0,(.slice none 0 0)] 52 (0,0)),pt n5 (.cells #[.int .i64 0,.int .i64 0] 87 (0,0)),DrB d A0.rest A0.pl,yC 3 1 (.slice none 0 0) 0 (ints (vI []))]))))⟩
    | 22,_ =>
      generalize hR : xS (zQ 22).1 22 bs pl = R
      rw [show (zQ 22).1 = ⟨false,15,-1,-1,-1,0,0,false⟩ from rfl,op_B] at hR
      have hs0 := dsm_B d bs pl 15 (by omega) (by decide)
      have hu0 := uA_ok bs pl
      have ha0 := sm_a (bs := bs) (pl := pl) (most := 15)
      try unfold vY at hR
      try dsimp only at hR
      generalize smA bs pl 15 = S0 at *
      generalize uA bs pl = A0 at *
      rcases S0 with ⟨z0,c0,e0⟩
      dsimp only at hs0 ha0 hR
      by_cases h0 : c0 = 0
      · subst h0
        obtain rfl := ha0 rfl
        rw [if_neg (by simp)] at hR
        subst hR
        repeat (first|(first|refine zB ?_|refine zE ?_|refine zG ?_|refine zK ?_|refine zL rfl ?_|refine zJ rfl ?_)|(first|((first|refine zA rfl ?_);first|refine JOq (yT rfl rfl (by omega)) rfl ?_|refine JOq (yL rfl rfl (by omega)) rfl ?_|refine zD rfl rfl ?_|refine zC rfl rfl ?_|refine zF rfl rfl ?_|refine zT rfl rfl rfl ?_|refine zW rfl rfl (by first | rfl | assumption) rfl ?_|refine zO rfl rfl (by rfl) (by rfl) (by first | decide | simp [Value.oneCell']) rfl ?_|refine zN rfl (hs0) rfl ?_)))
        exact ⟨⟨(⟨((22 : Nat) : Int),0,((z0 : Nat) : Int),0,0,[]⟩,(.slice none 0 0),(.slice none 0 0),[]),⟨rfl,rfl,fun _ => rfl⟩⟩,by (repeat (first|exact zM _|refine zI rfl ?_)),rfl,by dsimp only [vZ];exact ((own0t (e := 3)).trans ((uZ (e := 3)).trans (Ent.sel (K := [yC 3 1 (.slice none 0 0) 0 (ints []),pt n6 (.cells #[.int .i64 ((22 : Nat) : Int),.int .i64 0,.int .i64 ((z0 : Nat) : Int),.int .i64 0,.int .i64 0,(.slice none 0 0)] 52 (0,0)),pt n7 (.cells #[.int .i64 0,.int .i64 0] 87 (0,0)),pt n4 (.cells #[.int .i64 0,.int .i64 0,.int .i64 0,.int .i64 0,.int .i64 0,(.slice none 0 0)] 52 (0,0)),pt n5 (.cells #[.int .i64 0,.int .i64 0] 87 (0,0)),DrB d A0.rest A0.pl,yC 3 1 (.slice none 0 0) 0 (ints (vI []))]))))⟩
      · rw [if_pos h0] at hR
        subst hR
        repeat (first|(first|refine zB ?_|refine zE ?_|refine zG ?_|refine zK ?_|refine zL rfl ?_|refine zJ rfl ?_)|(first|((first|refine zA rfl ?_);first|refine JOq (yT rfl rfl (by omega)) rfl ?_|refine JOq (yL rfl rfl (by omega)) rfl ?_|refine zD rfl rfl ?_|refine zC rfl rfl ?_|refine zF rfl rfl ?_|refine zT rfl rfl rfl ?_|refine zW rfl rfl (by first | rfl | assumption) rfl ?_|refine zO rfl rfl (by rfl) (by rfl) (by first | decide | simp [Value.oneCell']) rfl ?_|refine zN rfl (hs0) rfl ?_)))
        exact ⟨⟨(⟨((22 : Nat) : Int),0,((z0 : Nat) : Int),0,0,[]⟩,(.slice none 0 0),(.slice none 0 0),[]),⟨rfl,rfl,fun h => absurd h h0⟩⟩,by (repeat (first|exact zM _|refine zI rfl ?_)),rfl,by dsimp only [vZ];exact ((own0t (e := 3)).trans ((uZ (e := 3)).trans (Ent.sel (K := [yC 3 1 (.slice none 0 0) 0 (ints []),pt n6 (.cells #[.int .i64 ((22 : Nat) : Int),.int .i64 0,.int .i64 ((z0 : Nat) : Int),.int .i64 0,.int .i64 0,(.slice none 0 0)] 52 (0,0)),pt n7 (.cells #[.int .i64 c0,.int .i64 e0] 87 (0,0)),pt n4 (.cells #[.int .i64 0,.int .i64 0,.int .i64 0,.int .i64 0,.int .i64 0,(.slice none 0 0)] 52 (0,0)),pt n5 (.cells #[.int .i64 0,.int .i64 0] 87 (0,0)),DrB d A0.rest A0.pl,yC 3 1 (.slice none 0 0) 0 (ints (vI []))]))))⟩
    | 23,_ =>
      generalize hR : xS (zQ 23).1 23 bs pl = R
      rw [show (zQ 23).1 = ⟨false,15,15,-1,-1,0,0,true⟩ from rfl,op_L2] at hR
      have hl := dlist_c d 2 15 bs pl (by omega) (by decide) (by decide)
      have ho := listA_ok 2 15 [] bs pl
      unfold LsQ at hl
      generalize vX 2 15 [] bs pl = T at *
      rcases T with ⟨tl,tc,ta,tb,tp⟩
      dsimp only at hl ho hR
      by_cases h0 : tc = 0
      · subst h0
        obtain rfl := (ho.1 rfl).1
        rw [if_neg (by simp)] at hR
        have h2 : tl.length = 2 := (ho.1 rfl).2
        match tl,h2 with
        | [l0,l1],_ =>
        subst hR
        repeat (first|(first|refine zB ?_|refine zE ?_|refine zG ?_|refine zK ?_|refine zL rfl ?_|refine zJ rfl ?_)|(first|((first|refine zA rfl ?_);first|refine JOq (yT rfl rfl (by omega)) rfl ?_|refine JOq (yL rfl rfl (by omega)) rfl ?_|refine yK rfl hl rfl (fun v hv => ?_)|refine zD rfl rfl ?_|refine zC rfl rfl ?_|refine zT rfl rfl rfl ?_|refine zO rfl rfl (by rfl) (by rfl) (by first | decide | simp [Value.oneCell']) rfl ?_)))
        exact ⟨⟨(⟨((23 : Nat) : Int),0,0,0,0,[]⟩,(.slice none 0 0),v,[l0,l1]),⟨rfl,hv,fun _ => rfl⟩⟩,by (repeat (first|exact zM _|refine zI rfl ?_)),rfl,by dsimp only [vZ];exact ((uZ (e := 3)).trans (Ent.sel (K := [yC 3 1 (.slice none 0 0) 0 (ints []),pt n6 (.cells #[.int .i64 ((23 : Nat) : Int),.int .i64 0,.int .i64 0,.int .i64 0,.int .i64 0,(.slice none 0 0)] 52 (0,0)),pt n7 (.cells #[.int .i64 0,.int .i64 0] 87 (0,0)),pt n4 (.cells #[.int .i64 0,.int .i64 0,.int .i64 0,.int .i64 0,.int .i64 0,(.slice none 0 0)] 52 (0,0)),pt n5 (.cells #[.int .i64 0,.int .i64 0] 87 (0,0)),DrB d tb tp,yC 3 1 v [l0,l1].length (ints (vI [l0,l1]))])))⟩
      · rw [if_pos h0] at hR
        subst hR
        repeat (first|(first|refine zB ?_|refine zE ?_|refine zG ?_|refine zK ?_|refine zL rfl ?_|refine zJ rfl ?_)|(first|((first|refine zA rfl ?_);first|refine JOq (yT rfl rfl (by omega)) rfl ?_|refine JOq (yL rfl rfl (by omega)) rfl ?_|refine yK rfl hl rfl (fun v hv => ?_)|refine zD rfl rfl ?_|refine zC rfl rfl ?_|refine zT rfl rfl rfl ?_|refine zO rfl rfl (by rfl) (by rfl) (by first | decide | simp [Value.oneCell']) rfl ?_)))
        exact ⟨⟨(⟨((23 : Nat) : Int),0,0,0,0,[]⟩,(.slice none 0 0),v,tl),⟨rfl,hv,fun h => absurd h h0⟩⟩,by (repeat (first|exact zM _|refine zI rfl ?_)),rfl,by dsimp only [vZ];exact ((uZ (e := 3)).trans (Ent.sel (K := [yC 3 1 (.slice none 0 0) 0 (ints []),pt n6 (.cells #[.int .i64 ((23 : Nat) : Int),.int .i64 0,.int .i64 0,.int .i64 0,.int .i64 0,(.slice none 0 0)] 52 (0,0)),pt n7 (.cells #[.int .i64 tc,.int .i64 ta] 87 (0,0)),pt n4 (.cells #[.int .i64 0,.int .i64 0,.int .i64 0,.int .i64 0,.int .i64 0,(.slice none 0 0)] 52 (0,0)),pt n5 (.cells #[.int .i64 0,.int .i64 0] 87 (0,0)),DrB d tb tp,yC 3 1 v tl.length (ints (vI tl))])))⟩
    | 24,_ =>
      generalize hR : xS (zQ 24).1 24 bs pl = R
      rw [show (zQ 24).1 = ⟨false,-1,-1,-1,-1,0,0,false⟩ from rfl,op_plain] at hR
      subst hR
      repeat (first|(first|refine zB ?_|refine zE ?_|refine zG ?_|refine zK ?_|refine zP ?_|refine zJ rfl ?_)|(first|((first|refine zA rfl ?_);first|refine JOq (yL rfl rfl (by omega)) rfl ?_|refine zC rfl rfl ?_)))
      exact ⟨⟨(⟨((24 : Nat) : Int),0,0,0,0,[]⟩,(.slice none 0 0),(.slice none 0 0),[]),⟨rfl,rfl,fun _ => rfl⟩⟩,by (repeat (first|exact zM _|refine zI rfl ?_)),rfl,by dsimp only [vZ];exact ((own0t (e := 3)).trans ((uZ (e := 3)).trans (Ent.sel (K := [yC 3 1 (.slice none 0 0) 0 (ints []),pt n6 (.cells #[.int .i64 ((24 : Nat) : Int),.int .i64 0,.int .i64 0,.int .i64 0,.int .i64 0,(.slice none 0 0)] 52 (0,0)),pt n7 (.cells #[.int .i64 0,.int .i64 0] 87 (0,0)),pt n4 (.cells #[.int .i64 0,.int .i64 0,.int .i64 0,.int .i64 0,.int .i64 0,(.slice none 0 0)] 52 (0,0)),pt n5 (.cells #[.int .i64 0,.int .i64 0] 87 (0,0)),DrB d bs pl,yC 3 1 (.slice none 0 0) 0 (ints (vI []))]))))⟩
    | k + 25,h => omega
  generalize xS (zQ n).1 n bs pl = R at *
  rintro ⟨⟨⟨op,a,b,c,e,l⟩,sv,t8,ls⟩,h1,h2,h3⟩
  dsimp only [thn] at h1 h2 h3 ⊢
  refine wQ (yC 3 1 sv l.length (ints l)) ?_
  refine J_ownv (fun ps cs hs => ?_)
  subst hs
  refine wQ (yC 3 1 t8 ls.length (ints (vI ls))) ?_
  refine J_view (fun pt8 ct8 ht => ?_)
  subst ht
  by_cases hl2 : ls.length = 2
  · match ls,hl2 with
    | [b',c'],_ =>
    have e0 : (ints (vI [b',c']))[0]? = some (.int .i64 ((b' : Nat) : Int)) := ints_pair.1
    have e1 : (ints (vI [b',c']))[1]? = some (.int .i64 ((c' : Nat) : Int)) := ints_pair.2
    repeat (first|(first|refine zB ?_|refine zE ?_|refine zG ?_|refine zL rfl ?_)|(first|((first|refine zA rfl ?_);first|refine JOq (yT rfl rfl (by omega)) rfl ?_|refine JO_indexV1 (j := 0) (cs := ints (vI [b',c'])) rfl rfl (by simp) _ e0 rfl fun b1 o1 hl1 => ?_|refine JO_indexV1 (j := 1) (cs := ints (vI [b',c'])) rfl rfl (by simp) _ e1 rfl fun b2 o2 hl2 => ?_|refine wU rfl hl1 rfl ?_|refine wU rfl hl2 rfl ?_|refine zD rfl rfl ?_|refine yF rfl rfl ?_|refine zF rfl rfl ?_|refine zW rfl rfl (by first | rfl | assumption) rfl ?_)))
    refine tG none [] Ent.nil ?_
    repeat' (first|refine JW_fin rfl ?_|refine JW_only rfl ?_|refine JW_two rfl ?_ ?_|refine vV rfl rfl (zU rfl (by rfl) rfl ⟨by first|exact (fun _ => Ent.sel),?_⟩)|refine vV rfl rfl (zO rfl rfl (by rfl) (by rfl) (by simp [Value.oneCell']) rfl ⟨by first|exact (fun _ => Ent.sel),?_⟩))
    all_goals (refine zV ?_;exact ⟨rfl,_,uO rfl (yV rfl rfl) (yV rfl rfl),_,Ent.sel,(⟨op,a,b',c',e,l⟩,.slice ps l.length cs),⟨rfl,h3⟩,rfl,rfl⟩)
  · rw [fixI_ne hl2] at h3
    repeat (first|(first|refine zB ?_|refine zE ?_|refine zG ?_|refine zP ?_|refine zJ rfl ?_)|(first|((first|refine zA rfl ?_);first|refine JOq (yL rfl rfl (by omega)) rfl ?_|refine zD rfl rfl ?_|refine yF rfl rfl ?_)))
    refine tG none [] Ent.nil ?_
    repeat' (first|refine JW_fin rfl ?_|refine JW_only rfl ?_|refine JW_two rfl ?_ ?_|refine vV rfl rfl (zU rfl (by rfl) rfl ⟨by first|exact (fun _ => Ent.sel),?_⟩)|refine vV rfl rfl (zO rfl rfl (by rfl) (by rfl) (by simp [Value.oneCell']) rfl ⟨by first|exact (fun _ => Ent.sel),?_⟩))
    all_goals (refine zV ?_;exact ⟨rfl,_,uO rfl (yV rfl rfl) (yV rfl rfl),_,Ent.sel,(⟨op,a,b,c,e,l⟩,.slice ps l.length cs),⟨rfl,h3⟩,rfl,rfl⟩)
end Go.Proofs.YtickblndgihoeaaGreatDoor
