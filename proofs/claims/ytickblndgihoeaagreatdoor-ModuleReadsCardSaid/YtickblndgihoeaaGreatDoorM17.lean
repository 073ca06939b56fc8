/- Layer 3: the plain law of sections. -/
import Derived.Test.YtickblndgihoeaaGreatDoorM5
import Derived.Test.YtickblndgihoeaaGreatDoorM13
import Derived.Test.YtickblndgihoeaaGreatDoorM16
import Derived.Test.YtickblndgihoeaaGreatDoorM15
import Derived.Test.YtickblndgihoeaaGreatDoorM7
import Derived.Test.YtickblndgihoeaaGreatDoorM9
import Derived.Test.YtickblndgihoeaaGreatDoorM10
set_option linter.unusedSimpArgs false
namespace Go.Proofs.YtickblndgihoeaaGreatDoor
open Go Go.Sp
theorem grab_ne {k : Nat} {bs ts r : List UInt8} (h : grab (k + 1) bs = some (ts,r)) : ts ≠ [] := by
  cases bs with
  | nil => simp [grab] at h
  | cons b bs =>
    simp only [grab] at h
    split at h
    · cases h;simp
    · cases hg : grab k bs with
      | none => rw [hg] at h;simp at h
      | some x => rw [hg] at h;simp at h;rw [← h.1];simp
theorem not_wrong {ts : List UInt8} (h : wrongL ts = false) : lastN ts < 128 ∧ (1 < ts.length → lastN ts ≠ 0) := by
  simp only [wrongL,Bool.or_eq_false_iff,Bool.and_eq_false_iff,decide_eq_false_iff_not] at h
  exact ⟨by omega,fun hl => by rcases h.2 with h2 | h2 <;> omega⟩
theorem uA_inv {bs : List UInt8} {pl : Int} (h : (uA bs pl).c = 0) : bs = wY (uA bs pl).n ++ (uA bs pl).rest ∧ (uA bs pl).pl = pl + (wY (uA bs pl).n).length := by
  unfold uA at h ⊢
  split at h
  · simp at h
  · rename_i ts r hg
    split at h
    · simp at h
    · rename_i hw
      have h0 := (grab_some _ _ _ _ hg).1
      have h1 := not_wrong (by simpa using hw)
      have h2 := (enc_val 10 bs ts r hg (grab_ne hg) h1.1 h1.2).1
      rw [if_neg hw]
      simp only [h2]
      exact ⟨h0,trivial⟩
structure SecA where
  part : List UInt8
  at_ : Int
  c : Int
  a : Int
  rest : List UInt8
  pl : Int
def secA (id : UInt8) (bs : List UInt8) (pl : Int) : SecA := match bs with
  | [] => ⟨[],0,3,pl,[],pl⟩
  | x :: t =>
    if x ≠ id then ⟨[],0,7,pl,t,pl + 1⟩
    else if (smA t (pl + 1) 65536).2.1 ≠ 0 then ⟨[],0,(smA t (pl + 1) 65536).2.1,(smA t (pl + 1) 65536).2.2,(uA t (pl + 1)).rest,(uA t (pl + 1)).pl⟩
    else if (uA t (pl + 1)).rest.length < (smA t (pl + 1) 65536).1 then ⟨[],0,3,(uA t (pl + 1)).pl,(uA t (pl + 1)).rest,(uA t (pl + 1)).pl⟩
    else ⟨(uA t (pl + 1)).rest.take (smA t (pl + 1) 65536).1,(uA t (pl + 1)).pl,0,0,(uA t (pl + 1)).rest.drop (smA t (pl + 1) 65536).1,(uA t (pl + 1)).pl + (smA t (pl + 1) 65536).1⟩
def vP (id : UInt8) (t : List UInt8) : List UInt8 := id :: (wY t.length ++ t)
theorem secA_lay (id : UInt8) (t r : List UInt8) (pl : Int) (h : t.length ≤ 65536) : secA id (vP id t ++ r) pl = ⟨t,pl + 1 + (wY t.length).length,0,0,r,pl + (vP id t).length⟩ := by
  have hu : uA (wY t.length ++ (t ++ r)) (pl + 1) = _ := uA_enc (by omega) (t ++ r) (pl + 1)
  have hs : smA (wY t.length ++ (t ++ r)) (pl + 1) 65536 = (t.length,0,0) := by
    unfold smA
    rw [hu]
    simp only [ne_eq,not_true,if_false]
    rw [if_neg (by omega)]
  simp only [vP,List.cons_append,List.append_assoc,secA,ne_eq,not_true,if_false,hs,hu]
  have h1 : ¬ (t ++ r).length < t.length := by simp
  rw [if_neg h1]
  simp only [SecA.mk.injEq,List.take_left,List.drop_left,true_and,List.length_cons,List.length_append]
  omega
theorem secA_inv {id : UInt8} {bs : List UInt8} {pl : Int} (h : (secA id bs pl).c = 0) :
    bs = vP id (secA id bs pl).part ++ (secA id bs pl).rest ∧ (secA id bs pl).part.length ≤ 65536 ∧ (secA id bs pl).pl = pl + (vP id (secA id bs pl).part).length ∧ (secA id bs pl).at_ + (secA id bs pl).part.length = (secA id bs pl).pl ∧ pl ≤ (secA id bs pl).at_ := by
  cases bs with
  | nil => simp [secA] at h
  | cons x t =>
    unfold secA at h ⊢
    simp only at h ⊢
    split at h
    · simp at h
    · rename_i hx
      split at h
      · rename_i h1;exact absurd h h1
      · rename_i h1
        split at h
        · simp at h
        · rename_i h2
          rw [if_neg hx,if_neg h1,if_neg h2]
          have hc : (uA t (pl + 1)).c = 0 := by
            apply Classical.byContradiction
            intro hc
            exact h1 (by unfold smA;rw [if_pos hc];exact hc)
          have hm : ((uA t (pl + 1)).n : Int) ≤ 65536 := by
            apply Classical.byContradiction
            intro hm
            exact h1 (by unfold smA;rw [if_neg (by simpa using hc),if_pos (by omega)];simp)
          have hs : smA t (pl + 1) 65536 = ((uA t (pl + 1)).n,0,0) := by unfold smA;rw [if_neg (by simpa using hc),if_neg (by omega)]
          rw [hs] at h2 ⊢
          obtain ⟨h3,h4⟩ := uA_inv hc
          have hx' : x = id := by simpa using hx
          have hl : ((uA t (pl + 1)).rest.take (uA t (pl + 1)).n).length = (uA t (pl + 1)).n := by rw [List.length_take];omega
          simp only [vP,hl,List.cons_append,List.append_assoc,List.take_append_drop,List.length_cons,List.length_append]
          rw [h4,← h3,hx']
          exact ⟨rfl,by omega,by push_cast;omega,trivial,by omega⟩
theorem secA_pl (id : UInt8) (bs : List UInt8) (pl : Int) : (secA id bs pl).pl + (secA id bs pl).rest.length = pl + bs.length ∧ pl ≤ (secA id bs pl).pl := by
  cases bs with
  | nil => simp [secA]
  | cons x t =>
    have h := uA_ok t (pl + 1)
    unfold secA
    simp only
    split
    · simp;omega
    · split
      · simp;omega
      · split
        · simp;omega
        · simp only [List.length_drop,List.length_cons];omega
def headL : List UInt8 := [67,76,81,89,1]
def begA : List UInt8 → List UInt8 → Int → Int × Int
  | [],_,_ => (0,0)
  | _ :: _,[],p => (6,p)
  | c :: h,x :: b,p => if x = c then begA h b (p + 1) else (6,p)
theorem begA_lay : ∀ (h r : List UInt8) (p : Int),begA h (h ++ r) p = (0,0) := by
  intro h
  induction h with
  | nil => intro r p;rfl
  | cons c h ih => intro r p;simp [begA,ih]
theorem begA_inv : ∀ (h b : List UInt8) (p : Int),(begA h b p).1 = 0 → b = h ++ b.drop h.length := by
  intro h
  induction h with
  | nil => intro b p _;rfl
  | cons c h ih =>
    intro b p hb
    cases b with
    | nil => simp [begA] at hb
    | cons x b =>
      simp only [begA] at hb
      split at hb
      · rename_i hx
        rw [hx,List.length_cons,List.drop_succ_cons,List.cons_append,← ih b _ hb]
      · simp at hb
def s1A (b : List UInt8) : SecA := secA 1 (b.drop 5) 5
def s2A (b : List UInt8) : SecA := secA 2 (s1A b).rest (s1A b).pl
def s3A (b : List UInt8) : SecA := secA 3 (s2A b).rest (s2A b).pl
def tE (b : List UInt8) : Int × Int :=
  if (begA headL b 0).1 ≠ 0 then begA headL b 0
  else if (s1A b).c ≠ 0 then ((s1A b).c,(s1A b).a)
  else if (s2A b).c ≠ 0 then ((s2A b).c,(s2A b).a)
  else if (s3A b).c ≠ 0 then ((s3A b).c,(s3A b).a)
  else endA (s3A b).rest (s3A b).pl
def splP (b : List UInt8) : List (List UInt8 × Int) := if (tE b).1 ≠ 0 then [] else [((s1A b).part,(s1A b).at_),((s2A b).part,(s2A b).at_),((s3A b).part,(s3A b).at_)]
def tB (x y z : List UInt8) : List UInt8 := headL ++ (vP 1 x ++ (vP 2 y ++ vP 3 z))
theorem spl_lay (x y z r : List UInt8) (hx : x.length ≤ 65536) (hy : y.length ≤ 65536) (hz : z.length ≤ 65536) :
    (begA headL (tB x y z ++ r) 0) = (0,0) ∧ (s1A (tB x y z ++ r)).c = 0 ∧ (s1A (tB x y z ++ r)).part = x ∧ (s1A (tB x y z ++ r)).at_ = 6 + (wY x.length).length ∧ (s2A (tB x y z ++ r)).c = 0 ∧ (s2A (tB x y z ++ r)).part = y ∧ (s2A (tB x y z ++ r)).at_ = 6 + (vP 1 x).length + (wY y.length).length ∧ (s3A (tB x y z ++ r)).c = 0 ∧ (s3A (tB x y z ++ r)).part = z ∧ (s3A (tB x y z ++ r)).at_ = 6 + (vP 1 x).length + (vP 2 y).length + (wY z.length).length ∧ (s3A (tB x y z ++ r)).rest = r ∧ (s3A (tB x y z ++ r)).pl = (tB x y z).length := by
  have hd : (tB x y z ++ r).drop 5 = vP 1 x ++ (vP 2 y ++ (vP 3 z ++ r)) := by simp [tB,headL]
  have h1 := (congrArg (fun b => secA 1 b 5) hd).trans (secA_lay 1 x _ 5 hx)
  change s1A (tB x y z ++ r) = _ at h1
  have h2 := (congrArg (fun s : SecA => secA 2 s.rest s.pl) h1).trans (secA_lay 2 y _ _ hy)
  change s2A (tB x y z ++ r) = _ at h2
  have h3 := (congrArg (fun s : SecA => secA 3 s.rest s.pl) h2).trans (secA_lay 3 z _ _ hz)
  change s3A (tB x y z ++ r) = _ at h3
  refine ⟨?_,?_⟩
  · rw [show tB x y z ++ r = headL ++ ((vP 1 x ++ (vP 2 y ++ vP 3 z)) ++ r) from by simp [tB]]
    exact begA_lay _ _ _
  · rw [h1,h2,h3]
    refine ⟨rfl,rfl,?_,rfl,rfl,?_,rfl,rfl,?_,rfl,?_⟩
    · simp only;omega
    · simp only;omega
    · simp only;omega
    · simp only [tB,List.length_append,headL,List.length_cons,List.length_nil];push_cast;omega
theorem spl_join (x y z : List UInt8) (hx : x.length ≤ 65536) (hy : y.length ≤ 65536) (hz : z.length ≤ 65536) : tE (tB x y z) = (0,0) ∧ (splP (tB x y z)).map Prod.fst = [x,y,z] := by
  have h := spl_lay x y z [] hx hy hz
  rw [List.append_nil] at h
  obtain ⟨h0,h1,h2,h3,h4,h5,h6,h7,h8,h9,h10,h11⟩ := h
  have he : tE (tB x y z) = (0,0) := by
    unfold tE
    simp [h0,h1,h4,h7,h10,endA]
  exact ⟨he,by unfold splP;simp [he,h2,h5,h8]⟩
theorem spl_inv {b : List UInt8} (h : (tE b).1 = 0) : ∃ x y z i j k,splP b = [(x,i),(y,j),(z,k)] ∧ b = tB x y z ∧ x.length ≤ 65536 ∧ y.length ≤ 65536 ∧ z.length ≤ 65536 := by
  have h' := h
  unfold tE at h
  split at h
  · rename_i h0;exact absurd h h0
  · rename_i h0
    split at h
    · rename_i h1;exact absurd h h1
    · rename_i h1
      split at h
      · rename_i h2;exact absurd h h2
      · rename_i h2
        split at h
        · rename_i h3;exact absurd h h3
        · rename_i h3
          refine ⟨_,_,_,_,_,_,by unfold splP;rw [if_neg (by simpa using h')],?_,?_⟩
          · have a0 := begA_inv headL b 0 (by simpa using h0)
            have a1 := (secA_inv (show (secA 1 (b.drop 5) 5).c = 0 from Classical.not_not.1 h1)).1
            have a2 := (secA_inv (show (secA 2 (s1A b).rest (s1A b).pl).c = 0 from Classical.not_not.1 h2)).1
            have a3 := (secA_inv (show (secA 3 (s2A b).rest (s2A b).pl).c = 0 from Classical.not_not.1 h3)).1
            have a4 : (s3A b).rest = [] := by
              unfold endA at h
              split at h
              · rename_i h5;exact List.length_eq_zero_iff.1 h5
              · simp at h
            have a4' : (secA 3 (s2A b).rest (s2A b).pl).rest = [] := a4
            rw [a4',List.append_nil] at a3
            have a2' : (s1A b).rest = vP 2 (s2A b).part ++ (s2A b).rest := a2
            have a1' : b.drop 5 = vP 1 (s1A b).part ++ (s1A b).rest := a1
            have a0' : b = headL ++ b.drop 5 := a0
            have a3' : (s2A b).rest = vP 3 (s3A b).part := a3
            rw [a3'] at a2'
            rw [a2'] at a1'
            rw [a1'] at a0'
            exact a0'
          · exact ⟨(secA_inv (show (secA 1 (b.drop 5) 5).c = 0 from Classical.not_not.1 h1)).2.1,(secA_inv (show (secA 2 (s1A b).rest (s1A b).pl).c = 0 from Classical.not_not.1 h2)).2.1,(secA_inv (show (secA 3 (s2A b).rest (s2A b).pl).c = 0 from Classical.not_not.1 h3)).2.1⟩
end Go.Proofs.YtickblndgihoeaaGreatDoor

/- Layer 9: the plain law: instructions come back from their bytes. -/
namespace Go.Proofs.YtickblndgihoeaaGreatDoor
open Go Go.Sp
def tailL (r : Row) (x : Ins) : List UInt8 := tF r.b x.b ++ (tF r.c x.c ++ (tF r.d x.d ++ ((if (r.least : Int) < (r.most : Int) then wY x.l.length else []) ++ x.l.flatMap vJ)))
theorem bytes_tail {n : Nat} {x : Ins} (h : n ≤ 24) (hx : x.op = (n : Int)) (h1 : n ≠ 1) (hl : x.l.length ≤ (zQ n).1.most) : tJ (zQ n) x = UInt8.ofNat n :: tailL (zQ n).1 x := by
  rw [bytes_of h hx h1 hl]
  simp [tailL]
end Go.Proofs.YtickblndgihoeaaGreatDoor

/- Layer 9: the plain law: what is read is laid again;no beginning of an instruction is one. -/
namespace Go.Proofs.YtickblndgihoeaaGreatDoor
open Go Go.Sp
theorem small_inv {most : Int} {k : Nat → RK} {bs : List UInt8} {pl : Int} (h : (vY most k bs pl).c = 0) : ∃ (m : Nat) (rest : List UInt8) (pl' : Int),(m : Int) ≤ most ∧ bs = wY m ++ rest ∧ vY most k bs pl = k m rest pl' := by
  unfold vY at h ⊢
  split at h
  · rename_i h1;exact absurd h h1
  · rename_i h1
    rw [if_neg h1]
    have h2 : (smA bs pl most).2.1 = 0 := Classical.not_not.1 h1
    have hc : (uA bs pl).c = 0 := by
      apply Classical.byContradiction
      intro hc
      exact h1 (by unfold smA;rw [if_pos hc];exact hc)
    have hn : (smA bs pl most).1 = (uA bs pl).n := by
      unfold smA at h2 ⊢
      rw [if_neg (by simpa using hc)] at h2 ⊢
      split at h2
      · simp at h2
      · rename_i h3;rw [if_neg h3]
    refine ⟨(smA bs pl most).1,_,_,sm_le h2,?_,rfl⟩
    rw [hn]
    exact (uA_inv hc).1
theorem opt_inv {m : Int} {k : Int → RK} {bs : List UInt8} {pl : Int} (h : (optK m k bs pl).c = 0) : ∃ (n : Int) (rest : List UInt8) (pl' : Int),inP n m ∧ bs = tF m n ++ rest ∧ optK m k bs pl = k n rest pl' := by
  by_cases hm : m = -1
  · rw [optK_none hm] at h ⊢
    exact ⟨0,bs,pl,by unfold inP;omega,by rw [optL_none hm];rfl,rfl⟩
  · rw [optK_some hm] at h ⊢
    obtain ⟨z,rest,pl',h1,h2,h3⟩ := small_inv h
    exact ⟨(z : Int),rest,pl',by unfold inP;omega,by rw [optL_some hm];exact h2,h3⟩
theorem list_inv {m : Int} {k : List Nat → RK} : ∀ (n : Nat) (acc : List Nat) (bs : List UInt8) (pl : Int),(listK n m acc k bs pl).c = 0 → ∃ (l : List Nat) (rest : List UInt8) (pl' : Int),l.length = n ∧ (∀ z ∈ l,(z : Int) ≤ m) ∧ bs = (vI l).flatMap vJ ++ rest ∧ listK n m acc k bs pl = k (acc ++ l) rest pl' := by
  intro n
  induction n with
  | zero => intro acc bs pl h;exact ⟨[],bs,pl,rfl,by simp,by simp [vI],by simp [listK]⟩
  | succ n ih =>
    intro acc bs pl h
    rw [listK_succ] at h ⊢
    obtain ⟨z,r1,p1,h1,h2,h3⟩ := small_inv h
    rw [h3] at h
    obtain ⟨l,r2,p2,g1,g2,g3,g4⟩ := ih _ _ _ h
    refine ⟨z :: l,r2,p2,by simp [g1],?_,?_,?_⟩
    · intro y hy
      simp only [List.mem_cons] at hy
      rcases hy with rfl | hy
      · exact h1
      · exact g2 y hy
    · rw [h2,g3]
      simp [vI,vJ]
    · rw [h3,g4]
      simp
theorem many_inv {r : Row} {k : List Nat → RK} {bs : List UInt8} {pl : Int} (hr : r.least ≤ r.most) (h : (manyK r k bs pl).c = 0) : ∃ (l : List Nat) (rest : List UInt8) (pl' : Int),r.least ≤ l.length + (if (r.least : Int) < (r.most : Int) then r.least else 0) ∧ l.length ≤ r.most ∧ (∀ z ∈ l,(z : Int) ≤ r.l) ∧ bs = (if (r.least : Int) < (r.most : Int) then wY l.length else []) ++ ((vI l).flatMap vJ ++ rest) ∧ manyK r k bs pl = k l rest pl' := by
  by_cases hlm : (r.least : Int) < (r.most : Int)
  · rw [manyK_lt hlm] at h ⊢
    obtain ⟨m,r1,p1,h1,h2,h3⟩ := small_inv h
    rw [h3] at h
    obtain ⟨l,r2,p2,g1,g2,g3,g4⟩ := list_inv _ _ _ _ h
    subst g1
    exact ⟨l,r2,p2,by rw [if_pos hlm];omega,by omega,g2,by rw [if_pos hlm,h2,g3],by rw [h3,g4];simp⟩
  · rw [manyK_ge hlm] at h ⊢
    obtain ⟨l,r2,p2,g1,g2,g3,g4⟩ := list_inv _ _ _ _ h
    exact ⟨l,r2,p2,by omega,by omega,g2,by rw [if_neg hlm,g3];rfl,by rw [g4];simp⟩
theorem row_order {n : Nat} (h : n ≤ 24) : (zQ n).1.least ≤ (zQ n).1.most := by
  match n,h with
  | 0,_ | 1,_ | 2,_ | 3,_ | 4,_ | 5,_ | 6,_ | 7,_ | 8,_ | 9,_ | 10,_ | 11,_ | 12,_ | 13,_ | 14,_ | 15,_ | 16,_ | 17,_ | 18,_ | 19,_ | 20,_ | 21,_ | 22,_ | 23,_ | 24,_ => decide
  | k + 25,h => omega
theorem fold_unfold (n : Nat) : foldZ (uB n) = n := by
  unfold foldZ uB
  split <;> split <;> omega
theorem oper_inv {n : Nat} (h24 : n ≤ 24) (h1 : n ≠ 1) {bs : List UInt8} {pl : Int} (h : (xS (zQ n).1 n bs pl).c = 0) : (xS (zQ n).1 n bs pl).x.op = n ∧ (xS (zQ n).1 n bs pl).x.a = 0 ∧ (xS (zQ n).1 n bs pl).x.l.length ≤ (zQ n).1.most ∧ bs = tailL (zQ n).1 (xS (zQ n).1 n bs pl).x ++ (xS (zQ n).1 n bs pl).bs := by
  unfold xS at h ⊢
  rw [if_neg (by rw [row_whole h24 h1];decide)] at h ⊢
  obtain ⟨b,r1,p1,a1,a2,a3⟩ := opt_inv h
  rw [a3] at h ⊢
  obtain ⟨c,r2,p2,b1,b2,b3⟩ := opt_inv h
  rw [b3] at h ⊢
  obtain ⟨d,r3,p3,c1,c2,c3⟩ := opt_inv h
  rw [c3] at h ⊢
  obtain ⟨l,r4,p4,d1,d2,d3,d4,d5⟩ := many_inv (row_order h24) h
  rw [d5]
  unfold finK tailL
  have hl : (vI l).length = l.length := natI_len
  refine ⟨rfl,rfl,by rw [hl];exact d2,?_⟩
  simp only [hl]
  rw [a2,b2,c2,d4]
  simp
theorem read_inv {bs : List UInt8} {pl : Int} (h : (uE bs pl).c = 0) : ∃ n : Nat,n ≤ 24 ∧ (uE bs pl).x.op = (n : Int) ∧ fitsP (zQ n).1 (uE bs pl).x ∧ (-9223372036854775808 ≤ (uE bs pl).x.a ∧ (uE bs pl).x.a ≤ 9223372036854775807) ∧ bs = tJ (zQ n) (uE bs pl).x ++ (uE bs pl).bs := by
  cases bs with
  | nil => simp [read_nil,vZ] at h
  | cons o t =>
    rw [read_cons] at h ⊢
    split at h
    · simp [vZ] at h
    · rename_i h24
      split at h
      · rename_i h1;exact absurd h h1
      · rename_i h1
        split at h
        · rename_i h2
          rw [if_neg h24,if_neg h1,if_pos h2]
          have hc : (xS (zQ o.toNat).1 o.toNat t (pl + 1)).c = 0 := h
          have hf : fitsP (zQ o.toNat).1 (xS (zQ o.toNat).1 o.toNat t (pl + 1)).x := by simpa [bP] using h2
          have ho : UInt8.ofNat o.toNat = o := by simp
          by_cases hn : o.toNat = 1
          · refine ⟨1,by decide,?_⟩
            rw [hn] at hc hf ⊢
            rw [show (zQ 1).1 = ⟨true,-1,-1,-1,-1,0,0,false⟩ from rfl,op_S] at hc ⊢
            have hf' := hf
            rw [show (zQ 1).1 = ⟨true,-1,-1,-1,-1,0,0,false⟩ from rfl,op_S] at hf'
            split at hc
            · rename_i h3;exact absurd hc h3
            · rename_i h3
              rw [if_neg h3] at hf' ⊢
              have hu := uA_inv (Classical.not_not.1 h3)
              have hi := unfold_in (uA_ok t (pl + 1)).1
              refine ⟨rfl,hf',hi,?_⟩
              rw [bytes_one rfl (by simp),fold_unfold]
              rw [show [UInt8.ofNat 1] = [o] from by rw [← ho,hn]]
              simp only [List.cons_append,List.nil_append]
              rw [← hu.1]
          · obtain ⟨g1,g2,g3,g4⟩ := oper_inv (by omega) hn hc
            refine ⟨o.toNat,by omega,g1,hf,by omega,?_⟩
            rw [bytes_tail (by omega) g1 hn g3,List.cons_append,← g4,ho]
        · simp [vZ] at h
def PP (p t : List UInt8) : Prop := ∃ r,r ≠ [] ∧ t = p ++ r
end Go.Proofs.YtickblndgihoeaaGreatDoor

/- Layer 11: of layer 9: what fits,decided;what reading hands back;what putting lays. -/
namespace Go.Proofs.YtickblndgihoeaaGreatDoor
open Go Go.Sp
def okD (un : Bool) (rl : Int) : List Int → List Int → Bool
  | _,[] => true
  | pre,n :: l => (!un || !pre.contains n) && decide (0 ≤ n) && decide (n ≤ rl) && okD un rl (pre ++ [n]) l
theorem okD_iff (un : Bool) (rl : Int) : ∀ (l pre : List Int),okD un rl pre l = true ↔ ∀ i,i < l.length → ∀ n,l[i]? = some n → (un = true → (∀ j,j < i → l[j]? ≠ some n) ∧ n ∉ pre) ∧ 0 ≤ n ∧ n ≤ rl := by
  intro l
  induction l with
  | nil => intro pre;simp [okD]
  | cons m l ih =>
    intro pre
    simp only [okD,Bool.and_eq_true,decide_eq_true_eq,ih]
    constructor
    · rintro ⟨⟨⟨h1,h2⟩,h3⟩,h4⟩ i hi n hn
      cases i with
      | zero =>
        simp only [List.getElem?_cons_zero,Option.some.injEq] at hn
        subst hn
        refine ⟨fun hu => ⟨fun j hj => absurd hj (by omega),?_⟩,h2,h3⟩
        subst hu
        simpa using h1
      | succ i =>
        simp only [List.getElem?_cons_succ] at hn
        obtain ⟨g1,g2⟩ := h4 i (by simpa using hi) n hn
        refine ⟨fun hu => ⟨fun j hj => ?_,fun hm => (g1 hu).2 (by simp [hm])⟩,g2⟩
        cases j with
        | zero =>
          simp only [List.getElem?_cons_zero,ne_eq,Option.some.injEq]
          intro he
          exact (g1 hu).2 (by simp [he])
        | succ j =>
          simp only [List.getElem?_cons_succ]
          exact (g1 hu).1 j (by omega)
    · intro h
      have h0 := h 0 (by simp) m (by simp)
      refine ⟨⟨⟨?_,h0.2.1⟩,h0.2.2⟩,fun i hi n hn => ?_⟩
      · cases un with
        | false => rfl
        | true => simpa using (h0.1 rfl).2
      · obtain ⟨g1,g2⟩ := h (i + 1) (by simpa using hi) n (by simpa using hn)
        refine ⟨fun hu => ⟨fun j hj => ?_,fun hm => ?_⟩,g2⟩
        · have := (g1 hu).1 (j + 1) (by omega)
          simpa using this
        · rw [List.mem_append,List.mem_singleton] at hm
          rcases hm with hm | hm
          · exact (g1 hu).2 hm
          · subst hm
            exact (g1 hu).1 0 (by omega) (by simp)
def inD (n m : Int) : Bool := decide (0 ≤ n) && decide (n ≤ max m 0)
def fitsD (r : Row) (x : Ins) : Bool := (r.whole || decide (x.a = 0)) && decide (r.least ≤ x.l.length) && decide (x.l.length ≤ r.most) && inD x.b r.b && inD x.c r.c && inD x.d r.d && (!r.unlike || decide (r.c = -1) || !decide (x.b = x.c)) && okD r.unlike r.l [] x.l
theorem fits_iff {r : Row} {x : Ins} : fitsD r x = true ↔ fitsP r x := by
  unfold fitsD fitsP headP pairP inP okL okAt inD
  simp only [Bool.and_eq_true,Bool.or_eq_true,decide_eq_true_eq,okD_iff,Bool.not_eq_true',decide_eq_false_iff_not,List.not_mem_nil,not_false_eq_true,and_true]
  constructor
  · rintro ⟨⟨⟨⟨⟨⟨⟨h1,h2⟩,h3⟩,h4⟩,h5⟩,h6⟩,h7⟩,h8⟩
    exact ⟨⟨h1,h2,h3⟩,⟨h4,h5,h6⟩,by rcases h7 with (h | h) | h <;> simp [h],h8⟩
  · rintro ⟨⟨h1,h2,h3⟩,⟨h4,h5,h6⟩,h7,h8⟩
    exact ⟨⟨⟨⟨⟨⟨⟨h1,h2⟩,h3⟩,h4⟩,h5⟩,h6⟩,by rcases h7 with h | h | h <;> simp [h]⟩,h8⟩
theorem fits_t {r : Row} {x : Ins} (h : fitsD r x = true) : fitsP r x := fits_iff.1 h
theorem fits_f {r : Row} {x : Ins} (h : fitsD r x = false) : ¬ fitsP r x := fun hf => by rw [fits_iff.2 hf] at h;cases h
def readD (bs : List UInt8) (pl : Int) : RdR := match bs with
  | [] => vZ 3 pl [] pl
  | o :: t => if 24 < o.toNat then vZ 11 pl t (pl + 1)
    else if (xS (zQ o.toNat).1 o.toNat t (pl + 1)).c ≠ 0 then vZ (xS (zQ o.toNat).1 o.toNat t (pl + 1)).c (xS (zQ o.toNat).1 o.toNat t (pl + 1)).a (xS (zQ o.toNat).1 o.toNat t (pl + 1)).bs (xS (zQ o.toNat).1 o.toNat t (pl + 1)).pl
    else if fitsD (zQ o.toNat).1 (xS (zQ o.toNat).1 o.toNat t (pl + 1)).x = true then xS (zQ o.toNat).1 o.toNat t (pl + 1)
    else vZ 2 pl (xS (zQ o.toNat).1 o.toNat t (pl + 1)).bs (xS (zQ o.toNat).1 o.toNat t (pl + 1)).pl
theorem read_D (bs : List UInt8) (pl : Int) : uE bs pl = readD bs pl := by
  have hb : ∀ (r : Row) (x : Ins),bP (fitsP r x) = fitsD r x := fun r x => by
    cases h : fitsD r x with
    | true => exact (bP_t (fits_t h)).symm
    | false => exact (bP_f (fits_f h)).symm
  cases bs with
  | nil => rfl
  | cons o t =>
    rw [read_cons,hb]
    rfl
theorem bytes_len {n : Nat} {x : Ins} (h24 : n ≤ 24) (hx : x.op = (n : Int)) (hf : fitsP (zQ n).1 x) (ha : -9223372036854775808 ≤ x.a ∧ x.a ≤ 9223372036854775807) : (tJ (zQ n) x).length ≤ 131 ∧ 1 ≤ (tJ (zQ n) x).length := by
  by_cases h1 : n = 1
  · subst h1
    rw [bytes_one hx hf.1.2.2]
    have := vM (fold_lt ha)
    simp
    omega
  · rw [bytes_tail h24 hx h1 hf.1.2.2]
    obtain ⟨⟨f0,f1,f2⟩,⟨f3,f4,f5⟩,f6,f7⟩ := hf
    obtain ⟨b1,b2,b3,b4⟩ := row_small h24
    obtain ⟨b5,b6⟩ := row_few h24
    have o1 := opt_len (m := (zQ n).1.b) (in_bound f3 b1)
    have o2 := opt_len (m := (zQ n).1.c) (in_bound f4 b2)
    have o3 := opt_len (m := (zQ n).1.d) (in_bound f5 b3)
    have o4 := flat_len (okL_mem f7 b4)
    have o5 := vM (n := x.l.length) (by omega)
    unfold tailL
    simp only [List.length_cons,List.length_append]
    split
    · omega
    · simp only [List.length_nil];omega
theorem Ct.postS {f : FuncId} {args : Array Value} {L : List HP} {R R' : Ending → List HP → Prop} (h : Ct Tryz.prog f args L R) (hr : ∀ e L',R e L' → ∀ F w,Sat w (F :: L') → ∃ L'',R' e L'' ∧ Sat w (F :: L'')) : Ct Tryz.prog f args L R' := fun F w hs =>
  (h F w hs).mono fun _ w' ⟨hne,_,r,s⟩ => let ⟨L'',r',s'⟩ := hr _ _ r F w' s;⟨hne,L'',r',s'⟩
theorem sat_er0 {v : Value} {a : Int} {w : World} {L : List HP} (h : Sat w (Er v 0 a :: L)) : v = .nilIface := h.out fun _ hk => hk.elim (fun h => h.2.2) (fun h => absurd rfl h.1)
theorem sat_er1 {v : Value} {c a : Int} {w : World} {L : List HP} (hc : c ≠ 0) (h : Sat w (Er v c a :: L)) : ∃ q,v = xH q ∧ Sat w (Ft q c a :: L) := by
  obtain ⟨q,h1⟩ := h.outE (α := Nat) (B := fun q k => v = xH q ∧ Ft q c a k) (fun k hk => hk.elim (fun h => absurd h.1 hc) (fun h => h.2))
  exact ⟨q,h1.out fun _ hk => hk.1,h1.conv fun _ hk => hk.2⟩
theorem read_ok (q : Nat) (bs : List UInt8) (pl : Int) (hpl : 0 ≤ pl ∧ pl + bs.length ≤ 1000000) {x : Ins} {bs' : List UInt8} {pl' : Int} (h : uE bs pl = ⟨x,0,0,bs',pl'⟩) :
    Ct Tryz.prog 146 #[ptr q] [RdB q bs pl] (RetE (fun y : Option Addr × Nat => x.l.length ≤ y.2) (fun y => .tuple #[.agg (insC x (.slice y.1 x.l.length y.2)).toArray,.nilIface]) (fun y => [Vw 1 (.slice y.1 x.l.length y.2) x.l.length (ints x.l),RdB q bs' pl'])) :=
  Ct.postS (read_c q bs pl hpl) fun e L' ⟨⟨v,p,cap⟩,hc,he,hL⟩ F w hs => by
    rw [h] at hc he hL
    dsimp only at hc he hL
    rw [hL] at hs
    obtain rfl := sat_er0 hs.rot
    exact ⟨_,⟨(p,cap),hc,he,rfl⟩,hs.rot.tail.rot.rot⟩
theorem read_bad (q : Nat) (bs : List UInt8) (pl : Int) (hpl : 0 ≤ pl ∧ pl + bs.length ≤ 1000000) {c a : Int} {bs' : List UInt8} {pl' : Int} (h : uE bs pl = vZ c a bs' pl') (hc0 : c ≠ 0) :
    Ct Tryz.prog 146 #[ptr q] [RdB q bs pl] (RetE (fun _ : Nat × Option Addr × Nat => True) (fun y => .tuple #[.agg (insC zeroI (.slice y.2.1 0 y.2.2)).toArray,xH y.1]) (fun y => [Ft y.1 c a,Vw 1 (.slice y.2.1 0 y.2.2) 0 (ints []),RdB q bs' pl'])) :=
  Ct.postS (read_c q bs pl hpl) fun e L' ⟨⟨v,p,cap⟩,hc,he,hL⟩ F w hs => by
    rw [h] at hc he hL
    unfold vZ at hc he hL
    dsimp only at hc he hL
    rw [hL] at hs
    obtain ⟨qf,rfl,h1⟩ := sat_er1 hc0 hs.rot
    exact ⟨_,⟨(qf,p,cap),trivial,he,rfl⟩,h1.rot.rot.rot⟩
theorem chk_cases (x : Ins) : chkA x ≠ 0 ∨ ∃ n : Nat,n ≤ 24 ∧ x.op = (n : Int) ∧ fitsP (zQ n).1 x ∧ chkA x = 0 := by
  by_cases h : x.op < 0 ∨ 24 < x.op
  · left;rw [chk_out h];decide
  · obtain ⟨n,hn⟩ := Int.eq_ofNat_of_zero_le (show 0 ≤ x.op by omega)
    by_cases hf : fitsP (zQ n).1 x
    · right;exact ⟨n,by omega,hn,hf,chk_ok hn (by omega) hf⟩
    · left;rw [chk_bad hn (by omega) hf];decide
theorem put_badK (w : Nat) (pre : List UInt8) (y : Ins) (p : Option Addr) (cap : Nat) (hc : y.l.length ≤ cap) (hm : y.l.length ≤ 1000) (h0 : chkA y ≠ 0) : Ct Tryz.prog 117 #[ptr w,.agg (insC y (.slice p y.l.length cap)).toArray] [Vw 1 (.slice p y.l.length cap) y.l.length (ints y.l),WrB w pre] (wF (.int .i64 (chkA y)) [WrB w pre,Vw 1 (.slice p y.l.length cap) y.l.length (ints y.l)]) :=
  Ct.post (Ct.heap ((Ent.dup (Vw 1 (.slice p y.l.length cap) y.l.length (ints y.l))).trans (Ent.sel (K := [Vw 1 (.slice p y.l.length cap) y.l.length (ints y.l),WrB w pre,Vw 1 (.slice p y.l.length cap) y.l.length (ints y.l)]))) ((put_bad w pre y p cap hc (by omega) h0).frame [WrB w pre,Vw 1 (.slice p y.l.length cap) y.l.length (ints y.l)])) fun _ _ ⟨_,⟨he,hL⟩,hL'⟩ => ⟨_,Ent.refl _,he,by rw [hL',hL];rfl⟩
theorem put_okK (w : Nat) (pre : List UInt8) (y : Ins) (p : Option Addr) (cap : Nat) (hc : y.l.length ≤ cap) (hm : y.l.length ≤ 1000) (hpre : pre.length ≤ 900000) (ha : -9223372036854775808 ≤ y.a ∧ y.a ≤ 9223372036854775807) {n : Nat} (hn : y.op = (n : Int)) (hn24 : n ≤ 24) (hfit : fitsP (zQ n).1 y) :
    Ct Tryz.prog 117 #[ptr w,.agg (insC y (.slice p y.l.length cap)).toArray] [Vw 1 (.slice p y.l.length cap) y.l.length (ints y.l),WrB w pre] (wF (.int .i64 0) [WrB w (pre ++ tJ (zQ n) y),Vw 1 (.slice p y.l.length cap) y.l.length (ints y.l)]) :=
  Ct.post (Ct.heap ((Ent.dup (Vw 1 (.slice p y.l.length cap) y.l.length (ints y.l))).trans (Ent.sel (K := [Vw 1 (.slice p y.l.length cap) y.l.length (ints y.l),WrB w pre,Vw 1 (.slice p y.l.length cap) y.l.length (ints y.l)]))) ((put_ok w pre y p cap hc hm hpre ha hn hn24 hfit).frame [Vw 1 (.slice p y.l.length cap) y.l.length (ints y.l)])) fun _ _ ⟨_,⟨he,hL⟩,hL'⟩ => ⟨_,Ent.refl _,he,by rw [hL',hL];rfl⟩
theorem read_a {bs : List UInt8} {pl : Int} (h : (uE bs pl).c = 0) : (uE bs pl).a = 0 := by
  cases bs with
  | nil => rw [read_nil] at h;exact absurd (show (3 : Int) = 0 from h) (by decide)
  | cons o t =>
    rw [read_cons] at h ⊢
    split at h
    · exact absurd (show (11 : Int) = 0 from h) (by decide)
    · rename_i h1
      rw [if_neg h1]
      split at h
      · rename_i h2;exact absurd h h2
      · rename_i h2
        rw [if_neg h2]
        split at h
        · rename_i h3
          rw [if_pos h3]
          exact oper_a h
        · exact absurd (show (2 : Int) = 0 from h) (by decide)
theorem read_err {bs : List UInt8} {pl : Int} (h : (uE bs pl).c ≠ 0) : uE bs pl = vZ (uE bs pl).c (uE bs pl).a (uE bs pl).bs (uE bs pl).pl := by
  cases bs with
  | nil => rfl
  | cons o t =>
    rw [read_cons] at h ⊢
    split
    · rfl
    · rename_i h1
      rw [if_neg h1] at h
      split
      · rfl
      · rename_i h2
        rw [if_neg h2] at h
        split
        · rename_i h3
          rw [if_pos h3] at h
          exact absurd h h2
        · rfl
end Go.Proofs.YtickblndgihoeaaGreatDoor

/- Layer 11: laying nodes,parameters,arguments,starts,templates. -/
namespace Go.Proofs.YtickblndgihoeaaGreatDoor
open Go Go.Sp
def yB {α : Type} (R : α → HP) (xs : List α) : HP := fun k => ∀ x ∈ xs,R x k
theorem pers_all {α : Type} {R : α → HP} (h : ∀ x,Pers (R x)) (xs : List α) : Pers (yB R xs) := fun k hk x hx => h x k (hk x hx)
theorem perm_from {W F A : HP} {K : List HP} : (K ++ (A :: F :: W :: [])).Perm (F :: ((W :: K) ++ [A])) :=
  (((List.Perm.swap F A [W]).trans ((List.Perm.swap W A []).cons F)).append_left K).trans (List.perm_middle.trans (List.perm_middle.cons F))
theorem ct_from {f : FuncId} {args : Array Value} {o : OB} {w : Nat} {pre : List UInt8} {A : HP} {K : List HP} (hp : Pers A) (hK : ∀ k,A k → Star K k) (h : Ct Tryz.prog f args (WrB w pre :: K) (OutP o w pre K)) : Ct Tryz.prog f args [WrB w pre,A] (OutP o w pre [A]) :=
  Ct.post (Ct.heap (fun F v hs => by
    have s1 : Sat v (A :: F :: WrB w pre :: []) := hs.perm (((List.Perm.swap A (WrB w pre) []).cons F).trans (List.Perm.swap A F _))
    have s2 := Sat.split (s1.dup hp) hK
    exact s2.perm perm_from) (h.frame [A])) fun e L'' ⟨L',h1,h2⟩ => by
    cases o with
    | none => exact ⟨[],Ent.nil,h1.1,rfl⟩
    | some bs => obtain ⟨he,hL⟩ := h1;subst hL h2;exact ⟨_,Ent.keep (Ent.rest K [A]),he,rfl⟩
theorem ct_pers {f : FuncId} {args : Array Value} {o : OB} {w : Nat} {pre : List UInt8} {A : HP} {K : List HP} (hp : Pers A) (hK : ∀ k,A k → ∀ B ∈ K,Pers B ∧ B k) (h : Ct Tryz.prog f args (WrB w pre :: K) (OutP o w pre K)) : Ct Tryz.prog f args [WrB w pre,A] (OutP o w pre [A]) :=
  ct_from hp (fun k hk => star_pers (hK k hk)) h
abbrev wG (n : Nod) : HP := Vw 2 (slc n.a n.next.length) n.next.length (n.next.flatMap yI)
def costN (n : Nod) : Nat := 100 + costs (fun _ => 20) n.next
theorem nodeO_out {n : Nod} (h : ¬ (0 ≤ n.kind ∧ n.kind ≤ 5)) : wJ n = none := by
  unfold wJ
  rw [if_neg (by omega),if_neg (by omega),if_neg (by omega),if_neg (by omega)]
attribute [local irreducible] callFunc Go.method J JL JO JR JR1 JRl Ct JG JM JM1 JW JW1 JQ JQ0 JS CtD xB WrB by8 wK Emp xV wH
theorem node11_c (w : Nat) (pre : List UInt8) (n : Nod) (hpre : pre.length + costN n ≤ 880000) : Ct Tryz.prog 53 #[lay w,.agg (xR n).toArray] [WrB w pre,wG n] (OutP (wJ n) w pre [wG n]) := by
  obtain ⟨kind,prio,ch,pay,next,a⟩ := n
  unfold costN at hpre
  by_cases hk : 0 ≤ kind ∧ kind ≤ 5
  · have h6 : kind = 0 ∨ kind = 1 ∨ kind = 2 ∨ kind = 3 ∨ kind = 4 ∨ kind = 5 := by omega
    rcases h6 with rfl | rfl | rfl | rfl | rfl | rfl <;> cases ch
    · exact node00_c w pre prio pay next a hpre
    · exact node01_c w pre prio pay next a hpre
    · exact node10_c w pre prio pay next a hpre
    · exact node11_c' w pre prio pay next a hpre
    · exact node20_c w pre prio pay next a hpre
    · exact node21_c w pre prio pay next a hpre
    · exact node30_c w pre prio pay next a hpre
    · exact node31_c w pre prio pay next a hpre
    · exact node40_c w pre prio pay next a hpre
    · exact node41_c w pre prio pay next a hpre
    · exact node50_c w pre prio pay next a hpre
    · exact node51_c w pre prio pay next a hpre
  · rw [nodeO_out hk]
    refine yE (vs := [_,_]) Tryz.func53 rfl Tryz.ntmps53 (by simp) ?_
    have c1 := uG w pre kind 5 (by omega) (by decide)
    repeat (first|(first|refine zB ?_|refine zE ?_|refine zG ?_)|(first|((first|refine zA rfl ?_);first|refine zF rfl rfl ?_|refine zH rfl rfl ?_|refine zU rfl (by rfl) rfl ?_|refine yN rfl rfl (fun r => ?_))))
    refine zA rfl (xJ rfl c1 rfl (fun b1 g1 => absurd (numO_le g1) hk) (fun g1 => yW rfl))
structure Prm where
  ch : Bool
  ty : Int × Int
abbrev tI (p : Prm) : List Value := [.bool p.ch,.int .i64 p.ty.1,.int .i64 p.ty.2]
def prmO (p : Prm) : OB := xM (flagO p.ch) (if p.ch then xV p.ty else wV (p.ty.1 == 0 && p.ty.2 == 0))
theorem prmO_len {p : Prm} {bs : List UInt8} (h : prmO p = some bs) : bs.length ≤ 30 := by
  obtain ⟨ch,ty⟩ := p
  cases ch with
  | true =>
    cases h1 : xV ty with
    | none => rw [show prmO ⟨true,ty⟩ = xM (flagO true) (xV ty) from rfl,h1,catO_none'] at h;cases h
    | some b =>
      rw [show prmO ⟨true,ty⟩ = xM (flagO true) (xV ty) from rfl,h1] at h
      cases h
      have := vL h1
      simp
      omega
  | false =>
    rw [show prmO ⟨false,ty⟩ = xM (flagO false) (wV (ty.1 == 0 && ty.2 == 0)) from rfl] at h
    cases h1 : (ty.1 == 0 && ty.2 == 0) with
    | false => rw [h1] at h;cases h
    | true => rw [h1] at h;cases h;simp
theorem prm11_c (w : Nat) (pre : List UInt8) (p : Prm) (hpre : pre.length ≤ 879970) : Ct Tryz.prog 114 #[lay w,.agg (tI p).toArray] [WrB w pre] (OutP (prmO p) w pre []) := by
  obtain ⟨ch,ty⟩ := p
  have c1 := flag11_c w pre ch (by omega)
  refine yE (vs := [lay w,.agg [.bool ch,.int .i64 ty.1,.int .i64 ty.2].toArray]) Tryz.func114 rfl Tryz.ntmps114 (by simp) ?_
  cases ch with
  | true =>
    have e0 : prmO ⟨true,ty⟩ = xM (flagO true) (xV ty) := rfl
    repeat (first|(first|refine zB ?_|refine zE ?_|refine zG ?_)|(first|((first|refine zA rfl ?_);first|refine zF rfl rfl ?_|refine zH rfl rfl ?_|refine zU rfl (by rfl) rfl ?_|refine yN rfl rfl (fun r => ?_))))
    refine zA rfl (xJ rfl c1 rfl (fun b1 g1 => ?_) (fun g1 => by cases g1))
    have l1 := flagO_len g1
    repeat (first|(first|refine zB ?_|refine zE ?_|refine zG ?_)|(first|((first|refine zA rfl ?_);first|refine zD rfl rfl ?_|refine zF rfl rfl ?_|refine zH rfl rfl ?_|refine yA rfl rfl rfl ?_)|refine yU rfl rfl rfl ?_))
    refine zA rfl (wN rfl (xY true) rfl (fun _ => ?_) (fun h => absurd h (by decide)))
    have c2 := typ11_c w (pre ++ b1) ty (by rw [List.length_append];omega)
    repeat (first|(first|refine zB ?_|refine zE ?_|refine zG ?_|refine zL rfl ?_)|(first|((first|refine zA rfl ?_);first|refine xI rfl (by simp) rfl ?_|refine zF rfl rfl ?_|refine zH rfl rfl ?_)))
    refine zA rfl (xJ rfl c2 rfl (fun b2 g2 => ?_) (fun g2 => yW (by rw [e0,g2,catO_none'])))
    repeat (first|(first|refine zE ?_)|(first|((first|refine zA rfl ?_);first|refine zD rfl rfl ?_)))
    exact uP rfl (show _ = some (b1 ++ b2) by rw [e0,g1,g2];rfl) (by simp) Ent.sel
  | false =>
    have e0 : prmO ⟨false,ty⟩ = xM (flagO false) (wV (ty.1 == 0 && ty.2 == 0)) := rfl
    repeat (first|(first|refine zB ?_|refine zE ?_|refine zG ?_)|(first|((first|refine zA rfl ?_);first|refine zF rfl rfl ?_|refine zH rfl rfl ?_|refine zU rfl (by rfl) rfl ?_|refine yN rfl rfl (fun r => ?_))))
    refine zA rfl (xJ rfl c1 rfl (fun b1 g1 => ?_) (fun g1 => by cases g1))
    repeat (first|(first|refine zB ?_|refine zE ?_|refine zG ?_)|(first|((first|refine zA rfl ?_|refine zZ rfl rfl ?_);first|refine JOq (JQ_eqAgg rfl rfl (eq_ii ty.1 ty.2 0 0 9998)) rfl ?_|refine yG (cs := yI (0,0)) rfl rfl rfl ?_|refine xI rfl (by simp) rfl ?_|refine zD rfl rfl ?_|refine zF rfl rfl ?_|refine zH rfl rfl ?_|refine yJ rfl rfl rfl ?_)))
    refine zA rfl (wN rfl (xY _) rfl (fun g2 => ?_) (fun g2 => yW (by rw [e0,g2,xZ,catO_none'])))
    repeat (first|(first|refine zB ?_|refine zE ?_|refine zG ?_|refine zP ?_|refine zJ rfl ?_)|(first|((first|refine zA rfl ?_);first|refine zF rfl rfl ?_|refine zH rfl rfl ?_)))
    exact uP rfl (show _ = some b1 by rw [e0,g1,g2];simp [wV]) (by simp) Ent.sel
structure Ar where
  ch : Bool
  word : Int
  en : Int
abbrev arC (p : Ar) : List Value := [.bool p.ch,.int .i64 p.word,.int .i64 p.en]
def arO (p : Ar) : OB := xM (flagO p.ch) (if p.ch then xM (wV (decide (p.word = 0))) (wK p.en 31) else xM (wV (decide (p.en = 0))) (some (wY (foldZ p.word))))
abbrev arOk (p : Ar) : Prop := -9223372036854775808 ≤ p.word ∧ p.word ≤ 9223372036854775807
theorem arO_len {p : Ar} (hw : arOk p) {bs : List UInt8} (h : arO p = some bs) : bs.length ≤ 30 := by
  obtain ⟨ch,wd,en⟩ := p
  cases ch with
  | true =>
    rw [show arO ⟨true,wd,en⟩ = xM (flagO true) (xM (wV (decide (wd = 0))) (wK en 31)) from rfl] at h
    cases h2 : decide (wd = 0) with
    | false => rw [h2] at h;simp [wV] at h
    | true =>
      cases h1 : wK en 31 with
      | none => rw [h1] at h;simp at h
      | some b =>
        rw [h1,h2] at h
        cases h
        have := vA h1 (by decide)
        simp
        omega
  | false =>
    rw [show arO ⟨false,wd,en⟩ = xM (flagO false) (xM (wV (decide (en = 0))) (some (wY (foldZ wd)))) from rfl] at h
    cases h2 : decide (en = 0) with
    | false => rw [h2] at h;simp [wV] at h
    | true =>
      rw [h2] at h
      cases h
      have := vM (n := foldZ wd) (fold_lt hw)
      simp
      omega
theorem ar11_c (w : Nat) (pre : List UInt8) (p : Ar) (hw : arOk p) (hpre : pre.length ≤ 879970) : Ct Tryz.prog 119 #[lay w,.agg (arC p).toArray] [WrB w pre] (OutP (arO p) w pre []) := by
  obtain ⟨ch,wd,en⟩ := p
  have c1 := flag11_c w pre ch (by omega)
  refine yE (vs := [lay w,.agg [.bool ch,.int .i64 wd,.int .i64 en].toArray]) Tryz.func119 rfl Tryz.ntmps119 (by simp) ?_
  cases ch with
  | true =>
    have e0 : arO ⟨true,wd,en⟩ = xM (flagO true) (xM (wV (decide (wd = 0))) (wK en 31)) := rfl
    repeat (first|(first|refine zB ?_|refine zE ?_|refine zG ?_)|(first|((first|refine zA rfl ?_);first|refine zF rfl rfl ?_|refine zH rfl rfl ?_|refine zU rfl (by rfl) rfl ?_|refine yN rfl rfl (fun r => ?_))))
    refine zA rfl (xJ rfl c1 rfl (fun b1 g1 => ?_) (fun g1 => by cases g1))
    have l1 := flagO_len g1
    repeat (first|(first|refine zB ?_|refine zE ?_|refine zG ?_|refine zL rfl ?_)|(first|((first|refine zA rfl ?_);first|refine zF rfl rfl ?_|refine zH rfl rfl ?_|refine JO_eqI rfl rfl rfl ?_)))
    refine zA rfl (wN rfl (xY _) rfl (fun g2 => ?_) (fun g2 => yW (by rw [e0,g2,xZ,catO_none,catO_none'])))
    have c2 := uG w (pre ++ b1) en 31 (by rw [List.length_append];omega) (by decide)
    repeat (first|(first|refine zB ?_|refine zE ?_|refine zG ?_)|(first|((first|refine zA rfl ?_);first|refine zF rfl rfl ?_|refine zH rfl rfl ?_|refine zU rfl (by rfl) rfl ?_)))
    refine zA rfl (xJ rfl c2 rfl (fun b2 g3 => ?_) (fun g3 => yW (by rw [e0,g3,catO_none',catO_none'])))
    repeat (first|(first|refine zE ?_|refine zV ?_)|(first|((first|refine zA rfl ?_);first|refine zD rfl rfl ?_)))
    exact outP_ret rfl (show _ = some (b1 ++ b2) by rw [e0,g1,g2,g3];rfl) (by simp) Ent.sel
  | false =>
    have e0 : arO ⟨false,wd,en⟩ = xM (flagO false) (xM (wV (decide (en = 0))) (some (wY (foldZ wd)))) := rfl
    repeat (first|(first|refine zB ?_|refine zE ?_|refine zG ?_)|(first|((first|refine zA rfl ?_);first|refine zF rfl rfl ?_|refine zH rfl rfl ?_|refine zU rfl (by rfl) rfl ?_|refine yN rfl rfl (fun r => ?_))))
    refine zA rfl (xJ rfl c1 rfl (fun b1 g1 => ?_) (fun g1 => by cases g1))
    have l1 := flagO_len g1
    repeat (first|(first|refine zB ?_|refine zE ?_|refine zG ?_|refine zP ?_|refine zJ rfl ?_)|(first|((first|refine zA rfl ?_);first|refine zF rfl rfl ?_|refine zH rfl rfl ?_|refine JO_eqI rfl rfl rfl ?_)))
    refine zA rfl (wN rfl (xY _) rfl (fun g2 => ?_) (fun g2 => yW (by rw [e0,g2,xZ,catO_none,catO_none'])))
    have c2 := puts_c w wd (pre ++ b1) hw (by rw [List.length_append];omega)
    repeat (first|(first|refine zB ?_|refine zE ?_)|(first|((first|refine zA rfl ?_);first|refine yK rfl c2 rfl (fun _ _ => ?_)|refine zF rfl rfl ?_|refine zH rfl rfl ?_)))
    exact uP rfl (show _ = some (b1 ++ wY (foldZ wd)) by rw [e0,g1,g2];rfl) (by simp) Ent.sel
structure Sta where
  tm : Int
  args : List Ar
  a : SA
abbrev vE (s : Sta) : List Value := [.int .i64 s.tm,slc s.a s.args.length]
abbrev StaR (s : Sta) : HP := Vw 3 (slc s.a s.args.length) s.args.length (s.args.flatMap arC)
def staO (s : Sta) : OB := xM (wK s.tm 15) (wH 0 8 arO s.args)
def costS (s : Sta) : Nat := 30 + costs (fun _ => 30) s.args
theorem ar_one (p : Ar) : ∀ v ∈ arC p,v.oneCell' = true := by simp [Value.oneCell']
theorem prm_one (p : Prm) : ∀ v ∈ tI p,v.oneCell' = true := by simp [Value.oneCell']
def arO' (p : Ar) : OB := if -9223372036854775808 ≤ p.word ∧ p.word ≤ 9223372036854775807 then arO p else none
theorem arO_in {p : Ar} (h : arOk p) : arO' p = arO p := by unfold arO';rw [if_pos h]
theorem arO'_len (p : Ar) (bs : List UInt8) (h : arO' p = some bs) : bs.length ≤ 30 := by
  unfold arO' at h
  split at h
  · rename_i hw;exact arO_len hw h
  · cases h
theorem mapO_eq {α : Type} {o o' : α → OB} : ∀ {l : List α},(∀ x ∈ l,o x = o' x) → uY o l = uY o' l
  | [],_ => rfl
  | x :: l,h => by
    show xM (o x) (uY o l) = xM (o' x) (uY o' l)
    rw [h x (by simp),mapO_eq (fun y hy => h y (by simp [hy]))]
theorem listO_eq {α : Type} {o o' : α → OB} {least most : Int} {l : List α} (h : ∀ x ∈ l,o x = o' x) : wH least most o l = wH least most o' l := by
  unfold wH
  rw [mapO_eq h]
theorem sta11_c (w : Nat) (pre : List UInt8) (s : Sta) (hw : ∀ p ∈ s.args,arOk p) (hpre : pre.length + costS s ≤ 880000) : Ct Tryz.prog 61 #[lay w,.agg (vE s).toArray] [WrB w pre,StaR s] (OutP (staO s) w pre [StaR s]) := by
  obtain ⟨tm,args,a⟩ := s
  unfold costS at hpre
  dsimp only at hw hpre ⊢
  have c1 := uG w pre tm 15 (by omega) (by decide)
  refine yE (vs := [lay w,.agg [.int .i64 tm,slc a args.length].toArray]) Tryz.func61 rfl Tryz.ntmps61 (by simp) ?_
  repeat (first|(first|refine zB ?_|refine zE ?_|refine zG ?_)|(first|((first|refine zA rfl ?_);first|refine zF rfl rfl ?_|refine zH rfl rfl ?_|refine zU rfl (by rfl) rfl ?_|refine yN rfl rfl (fun r => ?_))))
  refine zA rfl (xJ rfl c1 rfl (fun b1 g1 => ?_) (fun g1 => yW (by unfold staO;rw [g1,catO_none])))
  have l1 := vA g1 (by decide)
  have c2 := listedArg_c arC arO' (fun _ => 30) (f := 119) [lay w] [] Emp (fun _ => rfl) ar_one arO'_len w args (fun x hx p hp => by rw [arO_in (hw x hx)];exact ct_emp (ar11_c w p x (hw x hx) (by omega))) a 0 8 (by decide) (pre ++ b1) (by rw [List.length_append];omega)
  rw [listO_eq (o' := arO) (fun x hx => arO_in (hw x hx))] at c2
  repeat (first|(first|refine zB ?_|refine zE ?_)|(first|((first|refine zA rfl ?_);first|refine zF rfl rfl ?_|refine zH rfl rfl ?_|refine zU rfl (by rfl) rfl ?_|refine wP rfl rfl rfl ?_)))
  refine JL_heap emp_in ?_
  refine zA rfl (xJ rfl c2 rfl (fun b2 g2 => ?_) (fun g2 => yW (by unfold staO;rw [g2,catO_none'])))
  repeat (first|(first|refine zE ?_)|(first|((first|refine zA rfl ?_);first|refine zD rfl rfl ?_)))
  exact uP rfl (show _ = some (b1 ++ b2) by unfold staO;rw [g1,g2];rfl) (by simp) Ent.sel
abbrev YI := Ins × Option Addr × Nat
abbrev vC (y : YI) : List Value := insC y.1 (.slice y.2.1 y.1.l.length y.2.2)
def uT (y : YI) : HP := fun k => (y.1.l.length ≤ y.2.2 ∧ y.1.l.length ≤ 1000 ∧ -9223372036854775808 ≤ y.1.a ∧ y.1.a ≤ 9223372036854775807) ∧ Vw 1 (.slice y.2.1 y.1.l.length y.2.2) y.1.l.length (ints y.1.l) k
theorem pers_insR (y : YI) : Pers (uT y) := fun k h => ⟨h.1,vQ _ _ _ _ k h.2⟩
noncomputable def insO (y : YI) : OB := if chkA y.1 = 0 then some (tJ (zQ y.1.op.toNat) y.1) else none
theorem ins_one' (y : YI) : ∀ v ∈ vC y,v.oneCell' = true := ins_one rfl
end Go.Proofs.YtickblndgihoeaaGreatDoor

/- A region whose one operation recovers;assertions split,joined;contracts under a fact. -/
namespace Go.Sp
open Go.RowKit
theorem ent_split {A : HP} {M L : List HP} (h : ∀ k,A k → Star M k) : Ent (A :: L) (M ++ L) := fun _ _ hs => (Sat.split hs.swap h).perm List.perm_middle
theorem ent_join {A : HP} {M L : List HP} (h : ∀ k,Star M k → A k) : Ent (M ++ L) (A :: L) := fun _ _ hs => (Sat.join (hs.perm List.perm_middle.symm) h).swap
theorem ent_turn {A B : HP} {L : List HP} (h : ∀ k,A k → B k) : Ent (A :: L) (B :: L) := Ent.head fun _ _ hs => hs.conv h
theorem ct_fact {P : Program} {f : FuncId} {args : Array Value} {A : HP} {L : List HP} {R : Ending → List HP → Prop} {φ : Prop} (hA : ∀ k,A k → φ) (h : φ → Ct P f args (A :: L) R) : Ct P f args (A :: L) R := fun F w hs => h (hs.tail.out hA) F w hs
section
variable {P : Program} {N : Nat} {E : Env} {D : List Deferred} {L : List HP} {u : FrameMode} {Q : PostS}
theorem JS_recover1 {id d1 : Nat} {ts : Array TypeId} {t1 : TypeId} {p1 : String} {af1 : Array Edge} (h1 : Nat.blt d1 N = true) (h : Q .normal (put E (some d1) (recM u).1) D L (recM u).2) :
    JS P N (.region id #[⟨some d1,.call ⟨.builtin .recover,#[],ts⟩,t1,p1,af1,none⟩] false) E D L u Q := by
  intro F a w c0 cs hu hr hs
  refine wpSIn_region ?_
  have e1 : (execOp a.eval ⟨some d1,.call ⟨.builtin .recover,#[],ts⟩,t1,p1,af1,none⟩).run P w = .ok .recover w := by simp [execOp,resolve,invoke,builtin]
  have r1 : Rep N (put E (some d1) (recM u).1) D (a.put (some d1) (recM u).1) := hr.put (d := some d1) h1 _
  show wpOpsSIn _ _ _ _ _ [0] _ _ _
  rw [wpOpsSIn]
  simp only [List.getElem?_toArray,List.getElem?_cons_zero,Region.wanted,if_true,e1]
  refine ⟨fun _ _ => trivial,?_⟩
  rcases recoverD_mode c0 cs with ⟨h3,h4⟩ | h3
  · rw [h3]
    have h5 : (recM u) = (.nilIface,u) := by rw [← hu];exact h4
    simp only [wpOpsSIn]
    rw [h5] at r1 h
    exact ⟨_,_,_,_,h,by rw [← hu],r1,hs⟩
  · rw [h3]
    simp only [wpOpsSIn]
    rw [hu]
    exact ⟨_,_,_,_,h,rfl,r1,hs⟩
end
end Go.Sp

/- Layer 11: laying templates,sections;what ends it. -/
namespace Go.Proofs.YtickblndgihoeaaGreatDoor
open Go Go.Sp
structure Tem where
  params : List Prm
  pa : SA
  code : List YI
  ca : SA
  at_ : List Int
  aa : SA
abbrev wA (t : Tem) : List Value := [slc t.pa t.params.length,slc t.ca t.code.length,slc t.aa t.at_.length]
def wS (t : Tem) : HP := fun k => Vw 3 (slc t.pa t.params.length) t.params.length (t.params.flatMap tI) k ∧ Vw 6 (slc t.ca t.code.length) t.code.length (t.code.flatMap vC) k ∧ yB uT t.code k ∧ Vw 1 (slc t.aa t.at_.length) t.at_.length (ints t.at_) k
theorem pers_temR (t : Tem) : Pers (wS t) := fun k h => ⟨vQ _ _ _ _ k h.1,vQ _ _ _ _ k h.2.1,pers_all pers_insR _ k h.2.2.1,vQ _ _ _ _ k h.2.2.2⟩
noncomputable def temO (t : Tem) : OB := xM (wH 0 8 prmO t.params) (wH 1 128 insO t.code)
def costT (t : Tem) : Nat := 30 + costs (fun _ => 30) t.params + costs (fun _ => 140) t.code
theorem insO_ok {y : YI} {n : Nat} (hn : y.1.op = (n : Int)) (h0 : chkA y.1 = 0) : insO y = some (tJ (zQ n) y.1) := by unfold insO;rw [if_pos h0,hn,Int.toNat_natCast]
theorem insO_bad {y : YI} (h0 : chkA y.1 ≠ 0) : insO y = none := by unfold insO;rw [if_neg h0]
theorem insO_len' {y : YI} (ha : -9223372036854775808 ≤ y.1.a ∧ y.1.a ≤ 9223372036854775807) {bs : List UInt8} (h : insO y = some bs) : bs.length ≤ 140 := by
  rcases chk_cases y.1 with h0 | ⟨n,h24,hn,hf,h0⟩
  · rw [insO_bad h0] at h;cases h
  · rw [insO_ok hn h0] at h
    cases h
    have := (bytes_len h24 hn hf ha).1
    omega
def CodH (r w : Nat) (code : List YI) : HP := fun k => Star [pt r (.cells #[ptr w] 115 (0,0)),yB uT code] k
theorem ct_ins {f : FuncId} {args : Array Value} {o : OB} {w r : Nat} {pre : List UInt8} {code : List YI} {x : YI} (hx : x ∈ code)
    (h : (x.1.l.length ≤ x.2.2 ∧ x.1.l.length ≤ 1000 ∧ -9223372036854775808 ≤ x.1.a ∧ x.1.a ≤ 9223372036854775807) → Ct Tryz.prog f args [WrB w pre,pt r (.cells #[ptr w] 115 (0,0)),Vw 1 (.slice x.2.1 x.1.l.length x.2.2) x.1.l.length (ints x.1.l)] (OutP o w pre [pt r (.cells #[ptr w] 115 (0,0)),Vw 1 (.slice x.2.1 x.1.l.length x.2.2) x.1.l.length (ints x.1.l)])) :
    Ct Tryz.prog f args [WrB w pre,CodH r w code] (OutP o w pre [CodH r w code]) := by
  have e1 : Ent [WrB w pre,CodH r w code] [yB uT code,pt r (.cells #[ptr w] 115 (0,0)),WrB w pre] :=
    (Ent.perm (List.Perm.swap _ _ _)).trans ((ent_split (M := [pt r (.cells #[ptr w] 115 (0,0)),yB uT code]) (fun _ h => h)).trans (Ent.perm (List.Perm.swap _ _ _)))
  refine Ct.heap e1 (ct_fact (fun k hk => (hk x hx).1) fun hf => ?_)
  have hd : PersA (yB uT code) := ⟨pers_all pers_insR code⟩
  have e2 : Ent [yB uT code,pt r (.cells #[ptr w] 115 (0,0)),WrB w pre] ([WrB w pre,pt r (.cells #[ptr w] 115 (0,0)),Vw 1 (.slice x.2.1 x.1.l.length x.2.2) x.1.l.length (ints x.1.l)] ++ [yB uT code]) :=
    (Ent.dup (yB uT code)).trans ((ent_turn (fun k hk => (hk x hx).2)).trans (Ent.sel (K := [WrB w pre,pt r (.cells #[ptr w] 115 (0,0)),Vw 1 (.slice x.2.1 x.1.l.length x.2.2) x.1.l.length (ints x.1.l),yB uT code])))
  refine Ct.post (Ct.heap e2 ((h hf).frame [yB uT code])) fun e L'' ⟨L',h1,h2⟩ => ?_
  cases o with
  | none => exact ⟨[],Ent.nil,h1.1,rfl⟩
  | some bs =>
    obtain ⟨he,hL⟩ := h1
    subst hL h2
    refine ⟨_,?_,he,rfl⟩
    exact (Ent.sel (L := [WrB w (pre ++ bs),pt r (.cells #[ptr w] 115 (0,0)),Vw 1 (.slice x.2.1 x.1.l.length x.2.2) x.1.l.length (ints x.1.l),yB uT code]) (K := [pt r (.cells #[ptr w] 115 (0,0)),yB uT code,WrB w (pre ++ bs)])).trans ((ent_join (A := CodH r w code) (M := [pt r (.cells #[ptr w] 115 (0,0)),yB uT code]) (fun _ h => h)).trans (Ent.perm (List.Perm.swap _ _ _)))
attribute [local irreducible] callFunc Go.method J JL JO JR JR1 JRl Ct JG JM JM1 JW JW1 JQ JQ0 JS CtD xB WrB by8 wK Emp xV wH ints chkA tJ CodH
theorem tmi11_c (w r : Nat) (pre : List UInt8) (y : YI) (hf : y.1.l.length ≤ y.2.2 ∧ y.1.l.length ≤ 1000 ∧ -9223372036854775808 ≤ y.1.a ∧ y.1.a ≤ 9223372036854775807) (hpre : pre.length ≤ 900000) :
    Ct Tryz.prog 116 #[.agg (vC y).toArray,ptr r] [WrB w pre,pt r (.cells #[ptr w] 115 (0,0)),Vw 1 (.slice y.2.1 y.1.l.length y.2.2) y.1.l.length (ints y.1.l)] (OutP (insO y) w pre [pt r (.cells #[ptr w] 115 (0,0)),Vw 1 (.slice y.2.1 y.1.l.length y.2.2) y.1.l.length (ints y.1.l)]) := by
  obtain ⟨h1,h2,ha⟩ := hf
  obtain ⟨x,p,cap⟩ := y
  dsimp only at h1 h2 ha ⊢
  refine yE (vs := [.agg (insC x (.slice p x.l.length cap)).toArray,_]) Tryz.func116 rfl Tryz.ntmps116 (by simp) ?_
  rcases chk_cases x with h0 | ⟨n,h24,hn,hfit,h0⟩
  · rw [insO_bad (y := (x,p,cap)) h0]
    have hp := put_badK w pre x p cap h1 h2 h0
    generalize chkA x = e at *
    repeat (first|(first|refine zB ?_|refine zE ?_|refine zG ?_)|(first|((first|refine zA rfl ?_);first|refine zN rfl hp rfl ?_|refine JOq (yL rfl rfl (by omega)) rfl ?_|refine zF rfl rfl ?_|refine zH rfl rfl ?_|refine zU rfl (by rfl) rfl ?_|refine yN rfl rfl (fun r => ?_))))
    refine zA rfl (wN rfl (xY false) rfl (fun h => absurd h (by decide)) (fun _ => yW rfl))
  · rw [insO_ok (y := (x,p,cap)) hn h0]
    have hp := put_okK w pre x p cap h1 h2 hpre ha hn h24 hfit
    repeat (first|(first|refine zB ?_|refine zE ?_|refine zG ?_)|(first|((first|refine zA rfl ?_);first|refine zN rfl hp rfl ?_|refine JOq (yT rfl rfl (by omega)) rfl ?_|refine zF rfl rfl ?_|refine zH rfl rfl ?_|refine zU rfl (by rfl) rfl ?_|refine yN rfl rfl (fun r => ?_))))
    refine zA rfl (wN rfl (xY true) rfl (fun _ => ?_) (fun h => absurd h (by decide)))
    repeat (first|(first|refine zE ?_)|(first|((first|refine zA rfl ?_);first|refine zD rfl rfl ?_)))
    exact uP rfl rfl rfl Ent.sel
noncomputable def insO' (y : YI) : OB := if -9223372036854775808 ≤ y.1.a ∧ y.1.a ≤ 9223372036854775807 then insO y else none
theorem insO_in {y : YI} (h : -9223372036854775808 ≤ y.1.a ∧ y.1.a ≤ 9223372036854775807) : insO' y = insO y := by unfold insO';rw [if_pos h]
theorem insO'_len (y : YI) (bs : List UInt8) (h : insO' y = some bs) : bs.length ≤ 140 := by
  unfold insO' at h
  split at h
  · rename_i hw;exact insO_len' hw h
  · cases h
theorem insC_len (y : YI) : (vC y).length = 6 := rfl
theorem tem11_c (w : Nat) (pre : List UInt8) (t : Tem) (hpre : pre.length + costT t ≤ 880000) : Ct Tryz.prog 56 #[lay w,.agg (wA t).toArray] [WrB w pre,wS t] (OutP (temO t) w pre [wS t]) := by
  refine ct_pers (K := [Vw 3 (slc t.pa t.params.length) t.params.length (t.params.flatMap tI),Vw 6 (slc t.ca t.code.length) t.code.length (t.code.flatMap vC),yB uT t.code]) (pers_temR t) (fun k h B hB => ?_) ?_
  · simp only [List.mem_cons,List.not_mem_nil,or_false] at hB
    rcases hB with rfl | rfl | rfl
    · exact ⟨vQ _ _ _ _,h.1⟩
    · exact ⟨vQ _ _ _ _,h.2.1⟩
    · exact ⟨pers_all pers_insR _,h.2.2.1⟩
  obtain ⟨params,pa,code,ca,at_,aa⟩ := t
  unfold costT at hpre
  dsimp only at hpre ⊢
  have c1 := listedParam_c tI prmO (fun _ => 30) (f := 114) [lay w] [] Emp (fun _ => rfl) prm_one (fun _ _ h => prmO_len h) w params (fun x _ p hp => ct_emp (prm11_c w p x (by omega))) pa 0 8 (by decide) pre (by omega)
  refine yE (vs := [lay w,.agg [slc pa params.length,slc ca code.length,slc aa at_.length].toArray]) Tryz.func56 rfl Tryz.ntmps56 (by simp) ?_
  refine wE (φ := ∀ y ∈ code,-9223372036854775808 ≤ y.1.a ∧ y.1.a ≤ 9223372036854775807) (fun F v hs => hs.tail.tail.tail.tail.out fun k hk y hy => (hk y hy).1.2.2) fun ha => ?_
  repeat (first|(first|refine zB ?_|refine zE ?_|refine zG ?_)|(first|((first|refine zA rfl ?_);first|refine zF rfl rfl ?_|refine zH rfl rfl ?_|refine zU rfl (by rfl) rfl ?_|refine yN rfl rfl (fun r => ?_)|refine wP rfl rfl rfl ?_)))
  rename_i r2
  revert r
  intro r3
  refine JL_heap emp_in ?_
  refine zA rfl (xJ rfl c1 rfl (fun b1 g1 => ?_) (fun g1 => yW (by unfold temO;rw [g1,catO_none])))
  have l1 := listO_len (by decide) (fun _ _ h => prmO_len h) g1
  have hd : PersA (yB uT code) := ⟨pers_all pers_insR code⟩
  have c2 := listedInsn_c vC insO' (fun _ => 140) (f := 116) [] [ptr r2] (CodH r2 w code) insC_len ins_one' insO'_len w code (fun x hx p hp => by rw [insO_in (ha x hx)];exact ct_ins hx (fun hf => tmi11_c w r2 p x hf (by omega))) ca 1 128 (by decide) (pre ++ b1) (by rw [List.length_append];omega)
  rw [listO_eq (o' := insO) (fun x hx => insO_in (ha x hx))] at c2
  repeat (first|(first|refine zB ?_|refine zE ?_)|(first|((first|refine zA rfl ?_);first|refine zF rfl rfl ?_|refine zH rfl rfl ?_|refine zU rfl (by rfl) rfl ?_|refine wP rfl rfl rfl ?_)))
  refine JL_heap (((Ent.dup (yB uT code)).trans (Ent.sel (K := [pt r2 (.cells #[ptr w] 115 (0,0)),yB uT code,WrB w (pre ++ b1),Vw 3 (slc pa params.length) params.length (params.flatMap tI),Vw 6 (slc ca code.length) code.length (code.flatMap vC),yB uT code]))).trans (ent_join (A := CodH r2 w code) (M := [pt r2 (.cells #[ptr w] 115 (0,0)),yB uT code]) (fun _ h => by unfold CodH;exact h))) ?_
  refine zA rfl (xJ rfl c2 rfl (fun b2 g2 => ?_) (fun g2 => yW (by unfold temO;rw [g2,catO_none'])))
  repeat (first|(first|refine zE ?_)|(first|((first|refine zA rfl ?_);first|refine zD rfl rfl ?_)))
  exact uP rfl (show _ = some (b1 ++ b2) by unfold temO;rw [g1,g2];rfl) (by simp) Ent.sel
end Go.Proofs.YtickblndgihoeaaGreatDoor

/- Layer 3: the program reads a section. -/
namespace Go.Proofs.YtickblndgihoeaaGreatDoor
open Go Go.Sp
def PtR (v : Value) (c : Int) (bs : List UInt8) (pl : Int) : HP := fun h => (c ≠ 0 ∧ v = .pointer none) ∨ (c = 0 ∧ ∃ q : Nat,v = ptr q ∧ RdB q bs pl h)
theorem ptr_none {c pl : Int} {bs : List UInt8} {L : List HP} (hc : c ≠ 0) : Ent L (PtR (.pointer none) c bs pl :: L) := fun _ _ hs => (hs.add (.inl ⟨hc,rfl⟩)).swap
theorem ptr_some {q : Nat} {pl : Int} {bs : List UInt8} {L : List HP} : Ent (RdB q bs pl :: L) (PtR (ptr q) 0 bs pl :: L) := fun _ _ hs => (hs.swap.conv fun _ hk => .inr ⟨rfl,q,rfl,hk⟩).swap
theorem ptr_any {v : Value} {c pl pl2 : Int} {bs bs2 : List UInt8} {A : HP} {L : List HP} (hc : c ≠ 0) : Ent (A :: PtR v c bs pl :: L) (A :: PtR v c bs2 pl2 :: L) := fun F w hs => by
  have h1 : Sat w (PtR v c bs pl :: F :: A :: L) := hs.perm ((List.Perm.cons _ (List.Perm.swap _ _ _)).trans (List.Perm.swap _ _ _))
  have h2 : Sat w (F :: PtR v c bs2 pl2 :: A :: L) := (h1.conv fun _ hk => hk.elim (fun h => .inl h) (fun h => absurd h.1 hc)).swap
  exact h2.perm (List.Perm.cons _ (List.Perm.swap _ _ _))
attribute [local irreducible] callFunc Go.method J JL JO Ct JG JM JM1 JQ JQ0 JS CtD xB RdB Er by8 uA ibits smA
theorem sfault_c (code at_ : Int) : Ct Tryz.prog 100 #[.int .i64 code,.int .i64 at_] [] (RetE (fun _ : Nat => True) xH (fun q => [Ft q code at_])) := by
  refine yE (vs := [_,_]) Tryz.func100 rfl Tryz.ntmps100 (by simp) ?_
  repeat (first|(first|refine zB ?_|refine zE ?_|refine zG ?_|refine zV ?_)|(first|((first|refine zA rfl ?_);first|refine yG (cs := [.int .i64 code,.int .i64 at_]) rfl rfl rfl ?_|refine zD rfl rfl ?_|refine zC rfl rfl ?_|refine yN rfl rfl (fun r => ?_)|refine vD (by simp) rfl rfl ?_)))
  exact ret_one rfl rfl r trivial rfl Ent.sel
theorem part_E (b : Nat) (bs : List UInt8) (pl : Int) (n : Nat) (hpl : 0 ≤ pl ∧ pl + bs.length ≤ 1000000) :
    Ct Tryz.prog 106 #[ptr b,.int .i64 (n : Int)] [RdB b bs pl] (RetE (fun x : Value × Value => x.1.oneCell' = true) (fun x => .tuple #[x.1,x.2]) (fun x => [Er x.2 (takeA bs pl n).2.1 (takeA bs pl n).2.2,PtR x.1 (takeA bs pl n).2.1 (bs.take n) pl,RdB b (takeR bs pl n).1 (takeR bs pl n).2])) := by
  by_cases h : bs.length < n
  · have h1 : takeA bs pl n = ([],3,pl) := by unfold takeA;rw [if_neg (by omega),if_pos (by omega)]
    have h2 : takeR bs pl n = (bs,pl) := by unfold takeR;rw [if_neg (by omega),if_pos (by omega)]
    have hp := part_bad b bs pl n (by rw [h1];show (3 : Int) ≠ 0;decide)
    rw [h1] at hp ⊢
    rw [h2]
    exact Ct.post hp fun _ _ ⟨v,_,he,hL⟩ => ⟨_,by rw [hL];exact (ptr_none (c := 3) (pl := pl) (bs := bs.take n) (by decide)).trans ent_perm2,(.pointer none,v),rfl,he,rfl⟩
  · have h1 : takeA bs pl n = (bs.take n,0,0) := by unfold takeA;rw [if_neg (by omega),if_neg (by omega),Int.toNat_natCast]
    have h2 : takeR bs pl n = (bs.drop n,pl + n) := by unfold takeR;rw [if_neg (by omega),if_neg (by omega),Int.toNat_natCast]
    rw [h1,h2]
    exact Ct.post (part_B b bs pl n (by omega) (by omega)) fun _ _ ⟨q,_,he,hL⟩ => ⟨_,by
      rw [hL]
      exact ent_perm2.trans (ptr_some.trans er_none),(ptr q,.nilIface),rfl,he,rfl⟩
def secsV : List (List Value) := [[.int .i64 0,.int .u8 1],[.int .i64 1,.int .u8 2],[.int .i64 2,.int .u8 3]]
theorem sections_c : Ct Tryz.prog 39 #[] [] (wF (.func (.func 96) #[] #[]) []) := by
  refine yE (vs := []) Tryz.func39 rfl Tryz.ntmps39 (by simp) ?_
  repeat (first|(first|refine zB ?_|refine zE ?_|refine zG ?_|refine zV ?_)|(first|((first|refine zA rfl ?_);first|refine zC rfl rfl ?_)))
  exact zY rfl rfl .nil
theorem sections1_c : SeqC Tryz.prog 96 [] [] [] secsV := by
  intro l σ τ I Ix hY s0
  refine yE (vs := [_]) Tryz.func96 rfl Tryz.ntmps96 (by simp) ?_
  repeat (first|(first|refine zB ?_|refine zE ?_|refine zG ?_|refine zK ?_)|(first|((first|refine zA rfl ?_);first|refine zD rfl rfl ?_)))
  refine xU (β := { i : Nat // i ≤ 3 } × σ) (fun y => [(0,.func (.yield l) #[] #[]),(3,.int .i64 (y.1.1 : Int))]) (fun _ => []) (fun y => [I y.1.1 y.2]) (fun y => 3 - y.1.1) (⟨0,by decide⟩,s0) ?_ rfl (Ent.refl _) ?_
  · (repeat (first|exact zM _|refine zI rfl ?_))
  rintro ⟨⟨i,hi⟩,s⟩
  dsimp only
  by_cases h : i = 3
  · subst h
    repeat (first|(first|refine zB ?_|refine zE ?_|refine zG ?_|refine zJ rfl ?_|refine xA ?_)|(first|((first|refine zA rfl ?_);first|refine JOq (yS rfl rfl (by omega)) rfl ?_)))
    exact seq_end (A := I 3 s) rfl _ (.inr rfl) .sel (.inl ⟨s,rfl⟩)
  · have hx : secsV[i]? = some [.int .i64 (i : Int),.int .u8 ((i + 1 : Nat) : Int)] := by
      match i,hi,h with
      | 0,_,_ => rfl
      | 1,_,_ => rfl
      | 2,_,_ => rfl
      | k + 3,h1,h2 => omega
    repeat (first|(first|refine zB ?_|refine zE ?_|refine zG ?_|refine zK ?_|refine zP ?_|refine zL rfl ?_)|(first|((first|refine zA rfl ?_);first|refine JOq (yH rfl rfl (by omega)) rfl ?_|refine yZ (b := 1) rfl rfl (by omega) rfl ?_|refine JOq (yX (a := i + 1) rfl (wrap_u8 (by omega))) rfl ?_|refine zD rfl rfl ?_|refine zC rfl rfl ?_)))
    refine zA rfl (JO_yieldI (hY i _ s hx) rfl rfl rfl (fun s' => ?_) (fun s' => ?_))
    · repeat (first|(first|refine zB ?_|refine zE ?_|refine zP ?_|refine zJ rfl ?_)|(first|((first|refine zA rfl ?_);first|refine yZ (b := 1) rfl rfl (by omega) rfl ?_|refine zD rfl rfl ?_|refine xD rfl rfl ?_)))
      exact ⟨(⟨i + 1,by omega⟩,s'),by simp only;omega,by (repeat (first|exact zM _|refine zI rfl ?_)),rfl,Ent.sel⟩
    · repeat (first|(first|refine zE ?_|refine zL rfl ?_|refine zV ?_)|(first|((first|refine zA rfl ?_);first|refine xD rfl rfl ?_)))
      exact seq_end rfl _ (.inl rfl) .sel (.inr ⟨s',rfl⟩)
abbrev fc (f : FuncId) (cs : List Value) : Value := .func (.func f) #[] cs.toArray
def k1A (id : UInt8) (bs : List UInt8) (pl : Int) : Int × Int := match bs with | [] => (3,pl) | x :: _ => if x ≠ id then (7,pl) else (0,0)
set_option maxHeartbeats 1000000 in
theorem k1_c (c d b : Nat) (id : UInt8) (bs : List UInt8) (pl : Int) (fz1 fz2 : Nat × Nat) (hpl : 0 ≤ pl ∧ pl + bs.length ≤ 1000000) :
    Ct Tryz.prog 102 #[ptr c,ptr d] [pt c (.cells #[ptr b] 70 fz1),pt d (.cells #[.int .u8 ((id.toNat : Nat) : Int)] 5 fz2),RdB b bs pl]
      (RetE (fun _ : Value => True) (fun v => v) (fun v => [Er v (k1A id bs pl).1 (k1A id bs pl).2,pt c (.cells #[ptr b] 70 fz1),pt d (.cells #[.int .u8 ((id.toNat : Nat) : Int)] 5 fz2),RdB b (wX bs pl).1 (wX bs pl).2])) := by
  have hp := place_B b bs pl
  have hb := byte_E b bs pl (by omega)
  refine yE (vs := [_,_]) Tryz.func102 rfl Tryz.ntmps102 (by simp) ?_
  cases bs with
  | nil =>
    simp only [byteA,wX] at hb ⊢
    repeat (first|(first|refine zB ?_|refine zE ?_|refine zG ?_)|(first|((first|refine zA rfl ?_);first|refine yK rfl hb rfl (fun v _ => ?_)|refine zD rfl rfl ?_|refine zC rfl rfl ?_|refine zH rfl rfl ?_|refine zT rfl rfl rfl ?_|refine zN rfl (hp) rfl ?_)))
    refine JL_er (fun h0 h00 hv => absurd h0 (by decide)) (fun q h0 hv => ?_)
    subst hv
    repeat (first|(first|refine zB ?_|refine zE ?_|refine zG ?_|refine zP ?_|refine zJ rfl ?_|refine zV ?_)|(first|((first|refine zA rfl ?_);first|refine JOq (JQ_eqI1 rfl) rfl ?_|refine zD rfl rfl ?_|refine zC rfl rfl ?_|refine yJ rfl rfl rfl ?_)|refine yU rfl rfl rfl ?_))
    exact ret_one rfl rfl (xH q) trivial rfl ((Ent.sel (K := [Ft q 3 pl,pt c (.cells #[ptr b] 70 fz1),pt d (.cells #[.int .u8 ((id.toNat : Nat) : Int)] 5 fz2),RdB b [] pl])).trans (tH (by decide)))
  | cons x t =>
    simp only [byteA,wX] at hb ⊢
    repeat (first|(first|refine zB ?_|refine zE ?_|refine zG ?_)|(first|((first|refine zA rfl ?_);first|refine yK rfl hb rfl (fun v _ => ?_)|refine zD rfl rfl ?_|refine zC rfl rfl ?_|refine zH rfl rfl ?_|refine zT rfl rfl rfl ?_|refine zN rfl (hp) rfl ?_)))
    refine JL_er (fun h0 h00 hv => ?_) (fun q h0 hv => absurd rfl h0)
    subst hv
    by_cases hx : x = id
    · subst hx
      repeat (first|(first|refine zB ?_|refine zE ?_|refine zG ?_|refine zP ?_|refine zJ rfl ?_|refine zV ?_)|(first|((first|refine zA rfl ?_|refine zZ rfl rfl ?_);first|refine JOq (JQ_eqI0 rfl) rfl ?_|refine JOq (vW rfl rfl (by omega)) rfl ?_|refine zD rfl rfl ?_|refine zC rfl rfl ?_|refine zH rfl rfl ?_|refine yA rfl rfl rfl ?_)))
      refine ret_one rfl rfl Value.nilIface trivial rfl ?_
      rw [show k1A x (x :: t) pl = (0,0) from by simp [k1A]]
      exact (Ent.sel (K := [pt c (.cells #[ptr b] 70 fz1),pt d (.cells #[.int .u8 ((x.toNat : Nat) : Int)] 5 fz2),RdB b t (pl + 1)])).trans er_none
    · have hn : x.toNat ≠ id.toNat := fun h => hx (UInt8.toNat_inj.1 h)
      repeat (first|(first|refine zB ?_|refine zE ?_|refine zG ?_|refine zL rfl ?_|refine zV ?_)|(first|((first|refine zA rfl ?_|refine zZ rfl rfl ?_);first|refine JOq (JQ_eqI0 rfl) rfl ?_|refine yK rfl (sfault_c 7 pl) rfl (fun q _ => ?_)|refine JOq (vS rfl rfl (by omega)) rfl ?_|refine zD rfl rfl ?_|refine zC rfl rfl ?_|refine zH rfl rfl ?_|refine yA rfl rfl rfl ?_)))
      refine ret_one rfl rfl (xH q) trivial rfl ?_
      rw [show k1A id (x :: t) pl = (7,pl) from by simp [k1A,hx]]
      exact (Ent.sel (K := [Ft q 7 pl,pt c (.cells #[ptr b] 70 fz1),pt d (.cells #[.int .u8 ((id.toNat : Nat) : Int)] 5 fz2),RdB b t (pl + 1)])).trans (tH (by decide))
theorem k2_c (c e b : Nat) (bs : List UInt8) (pl : Int) (x0 : Value) (fz1 fz2 : Nat × Nat) (hpl : 0 ≤ pl ∧ pl + bs.length ≤ 1000000) :
    Ct Tryz.prog 103 #[ptr c,ptr e] [pt c (.cells #[ptr b] 70 fz1),pt e (.cells #[x0] 3 (0,0)),RdB b bs pl]
      (RetE (fun _ : Value => True) (fun v => v) (fun v => [Er v (smA bs pl 65536).2.1 (smA bs pl 65536).2.2,pt c (.cells #[ptr b] 70 fz1),pt e (.cells #[.int .i64 (((smA bs pl 65536).1 : Nat) : Int)] 3 (0,0)),RdB b (uA bs pl).rest (uA bs pl).pl])) := by
  have hs := sm_E b bs pl 65536 hpl (by decide)
  refine yE (vs := [_,_]) Tryz.func103 rfl Tryz.ntmps103 (by simp) ?_
  repeat (first|(first|refine zB ?_|refine zE ?_|refine zG ?_|refine zV ?_)|(first|((first|refine zA rfl ?_);first|refine yK rfl hs rfl (fun v _ => ?_)|refine zD rfl rfl ?_|refine zC rfl rfl ?_|refine zH rfl rfl ?_|refine zT rfl rfl rfl ?_|refine zW rfl rfl (by first | rfl | assumption) rfl ?_)))
  exact ret_one rfl rfl v trivial rfl Ent.sel
theorem k3_c (c e p b : Nat) (bs : List UInt8) (pl : Int) (n : Nat) (x0 : Value) (fz1 fz2 : Nat × Nat) (hpl : 0 ≤ pl ∧ pl + bs.length ≤ 1000000) :
    Ct Tryz.prog 105 #[ptr c,ptr e,ptr p] [pt c (.cells #[ptr b] 70 fz1),pt e (.cells #[.int .i64 (n : Int)] 3 fz2),pt p (.cells #[x0] 70 (0,0)),RdB b bs pl]
      (RetE (fun x : Value × Value => x.1.oneCell' = true) (fun x => x.2) (fun x => [Er x.2 (takeA bs pl n).2.1 (takeA bs pl n).2.2,PtR x.1 (takeA bs pl n).2.1 (bs.take n) pl,pt c (.cells #[ptr b] 70 fz1),pt e (.cells #[.int .i64 (n : Int)] 3 fz2),pt p (.cells #[x.1] 70 (0,0)),RdB b (takeR bs pl n).1 (takeR bs pl n).2])) := by
  have hp := part_E b bs pl n hpl
  refine yE (vs := [_,_,_]) Tryz.func105 rfl Tryz.ntmps105 (by simp) ?_
  repeat (first|(first|refine zB ?_|refine zE ?_|refine zG ?_|refine zV ?_)|(first|((first|refine zA rfl ?_);first|refine yK rfl hp rfl (fun x hx => ?_)|refine zD rfl rfl ?_|refine zC rfl rfl ?_|refine zH rfl rfl ?_|refine zT rfl rfl rfl ?_|refine zW rfl rfl (by first | rfl | assumption) rfl ?_)))
  exact ret_one rfl rfl x hx rfl Ent.sel
end Go.Proofs.YtickblndgihoeaaGreatDoor

/- Layer 3: the program reads a section: its three steps,one behind the other. -/
namespace Go.Proofs.YtickblndgihoeaaGreatDoor
open Go Go.Sp
theorem secA_k1 {id : UInt8} {bs : List UInt8} {pl : Int} (h : (k1A id bs pl).1 ≠ 0) : secA id bs pl = ⟨[],0,(k1A id bs pl).1,(k1A id bs pl).2,(wX bs pl).1,(wX bs pl).2⟩ := by
  cases bs with
  | nil => rfl
  | cons x t =>
    unfold k1A at h ⊢
    unfold secA
    simp only at h ⊢
    split
    · rfl
    · rename_i hx;rw [if_neg hx] at h;simp at h
theorem secA_k2 {id : UInt8} {bs : List UInt8} {pl : Int} (h : (k1A id bs pl).1 = 0) (h2 : (smA (wX bs pl).1 (wX bs pl).2 65536).2.1 ≠ 0) :
    secA id bs pl = ⟨[],0,(smA (wX bs pl).1 (wX bs pl).2 65536).2.1,(smA (wX bs pl).1 (wX bs pl).2 65536).2.2,(uA (wX bs pl).1 (wX bs pl).2).rest,(uA (wX bs pl).1 (wX bs pl).2).pl⟩ := by
  cases bs with
  | nil => simp [k1A] at h
  | cons x t =>
    unfold k1A at h
    simp only at h
    split at h
    · simp at h
    · rename_i hx
      unfold secA
      simp only [wX] at h2 ⊢
      rw [if_neg hx,if_pos h2]
theorem secA_k3 {id : UInt8} {bs : List UInt8} {pl : Int} (h : (k1A id bs pl).1 = 0) (h2 : (smA (wX bs pl).1 (wX bs pl).2 65536).2.1 = 0) (h3 : (uA (wX bs pl).1 (wX bs pl).2).rest.length < (smA (wX bs pl).1 (wX bs pl).2 65536).1) :
    secA id bs pl = ⟨[],0,3,(uA (wX bs pl).1 (wX bs pl).2).pl,(uA (wX bs pl).1 (wX bs pl).2).rest,(uA (wX bs pl).1 (wX bs pl).2).pl⟩ := by
  cases bs with
  | nil => simp [k1A] at h
  | cons x t =>
    unfold k1A at h
    simp only at h
    split at h
    · simp at h
    · rename_i hx
      unfold secA
      simp only [wX] at h2 h3 ⊢
      rw [if_neg hx,if_neg (by simpa using h2),if_pos h3]
theorem secA_k4 {id : UInt8} {bs : List UInt8} {pl : Int} (h : (k1A id bs pl).1 = 0) (h2 : (smA (wX bs pl).1 (wX bs pl).2 65536).2.1 = 0) (h3 : ¬ (uA (wX bs pl).1 (wX bs pl).2).rest.length < (smA (wX bs pl).1 (wX bs pl).2 65536).1) :
    secA id bs pl = ⟨(uA (wX bs pl).1 (wX bs pl).2).rest.take (smA (wX bs pl).1 (wX bs pl).2 65536).1,(uA (wX bs pl).1 (wX bs pl).2).pl,0,0,(uA (wX bs pl).1 (wX bs pl).2).rest.drop (smA (wX bs pl).1 (wX bs pl).2 65536).1,(uA (wX bs pl).1 (wX bs pl).2).pl + (smA (wX bs pl).1 (wX bs pl).2 65536).1⟩ := by
  cases bs with
  | nil => simp [k1A] at h
  | cons x t =>
    unfold k1A at h
    simp only at h
    split at h
    · simp at h
    · rename_i hx
      unfold secA
      simp only [wX] at h2 h3 ⊢
      rw [if_neg hx,if_neg (by simpa using h2),if_neg h3]
theorem byteR_len (bs : List UInt8) (pl : Int) : (wX bs pl).2 + (wX bs pl).1.length = pl + bs.length ∧ pl ≤ (wX bs pl).2 := by
  cases bs with
  | nil => simp [wX]
  | cons x t => simp [wX];omega
def stage (n : Nat) (a b c d : List HP) : List HP := if n = 0 then a else if n = 1 then b else if n = 2 then c else d
theorem stage_0 (a b c d : List HP) : stage 0 a b c d = a := rfl
theorem stage_1 (a b c d : List HP) : stage 1 a b c d = b := rfl
theorem stage_2 (a b c d : List HP) : stage 2 a b c d = c := rfl
theorem stage_3 (a b c d : List HP) : stage 3 a b c d = d := rfl
attribute [local irreducible] stage callFunc Go.method J JL JO Ct JG JM JM1 JQ JQ0 JS CtD xB RdB Er by8 uA ibits smA PtR wX k1A
set_option maxHeartbeats 2000000 in
theorem first_c (r c d e p b : Nat) (id : UInt8) (bs : List UInt8) (pl : Int) (fz fz1 fz2 : Nat × Nat) (hpl : 0 ≤ pl ∧ pl + bs.length ≤ 1000000) :
    Ct Tryz.prog 101 #[.slice (some ⟨r,0,none⟩) 3 3]
      [pt r (.cells #[fc 102 [ptr c,ptr d],fc 103 [ptr c,ptr e],fc 105 [ptr c,ptr e,ptr p]] 107 fz),pt c (.cells #[ptr b] 70 fz1),pt d (.cells #[.int .u8 ((id.toNat : Nat) : Int)] 5 fz2),pt e (.cells #[.int .i64 0] 3 (0,0)),pt p (.cells #[.pointer none] 70 (0,0)),RdB b bs pl]
      (RetE (fun x : Value × Value => x.1.oneCell' = true) (fun x => x.2) (fun x => [Er x.2 (secA id bs pl).c (secA id bs pl).a,PtR x.1 (secA id bs pl).c (secA id bs pl).part (secA id bs pl).at_,pt p (.cells #[x.1] 70 (0,0)),RdB b (secA id bs pl).rest (secA id bs pl).pl])) := by
  have hl1 := byteR_len bs pl
  have hl2 := uA_ok (wX bs pl).1 (wX bs pl).2
  have c1 := k1_c c d b id bs pl fz1 fz2 hpl
  have c2 := k2_c c e b (wX bs pl).1 (wX bs pl).2 (.int .i64 0) fz1 (0,0) (by omega)
  have c3 := k3_c c e p b (uA (wX bs pl).1 (wX bs pl).2).rest (uA (wX bs pl).1 (wX bs pl).2).pl (smA (wX bs pl).1 (wX bs pl).2 65536).1 (.pointer none) fz1 (0,0) (by omega)
  have s1 := secA_k1 (id := id) (bs := bs) (pl := pl)
  have s2 := secA_k2 (id := id) (bs := bs) (pl := pl)
  have s3 := secA_k3 (id := id) (bs := bs) (pl := pl)
  have s4 := secA_k4 (id := id) (bs := bs) (pl := pl)
  generalize wX bs pl = B at *
  generalize uA B.1 B.2 = A at *
  generalize smA B.1 B.2 65536 = S at *
  generalize k1A id bs pl = K at *
  generalize secA id bs pl = W at *
  refine yE (vs := [_]) Tryz.func101 rfl Tryz.ntmps101 (by simp) ?_
  repeat (first|(first|refine zB ?_|refine zE ?_|refine zG ?_|refine zK ?_)|(first|((first|refine zA rfl ?_);first|refine zD rfl rfl ?_|refine zC rfl rfl ?_|refine yF rfl rfl ?_)))
  refine xU (β := { y : Nat × Value // y.2.oneCell' = true ∧ y.1 ≤ 3 ∧ (0 < y.1 → K.1 = 0) ∧ (1 < y.1 → S.2.1 = 0) ∧ (2 < y.1 → ¬ A.rest.length < S.1) }) (fun y => [(2,.nilIface),(6,.slice (some ⟨r,0,none⟩) 3 3),(7,.int .i64 3),(8,.int .i64 (y.1.1 : Int))]) (fun _ => [])
    (fun y => stage y.1.1 [pt r (.cells #[fc 102 [ptr c,ptr d],fc 103 [ptr c,ptr e],fc 105 [ptr c,ptr e,ptr p]] 107 fz),pt c (.cells #[ptr b] 70 fz1),pt d (.cells #[.int .u8 ((id.toNat : Nat) : Int)] 5 fz2),pt e (.cells #[.int .i64 0] 3 (0,0)),pt p (.cells #[.pointer none] 70 (0,0)),RdB b bs pl] [pt r (.cells #[fc 102 [ptr c,ptr d],fc 103 [ptr c,ptr e],fc 105 [ptr c,ptr e,ptr p]] 107 fz),pt c (.cells #[ptr b] 70 fz1),pt e (.cells #[.int .i64 0] 3 (0,0)),pt p (.cells #[.pointer none] 70 (0,0)),RdB b B.1 B.2] [pt r (.cells #[fc 102 [ptr c,ptr d],fc 103 [ptr c,ptr e],fc 105 [ptr c,ptr e,ptr p]] 107 fz),pt c (.cells #[ptr b] 70 fz1),pt e (.cells #[.int .i64 ((S.1 : Nat) : Int)] 3 (0,0)),pt p (.cells #[.pointer none] 70 (0,0)),RdB b A.rest A.pl] [PtR y.1.2 0 (A.rest.take S.1) A.pl,pt p (.cells #[y.1.2] 70 (0,0)),RdB b (A.rest.drop S.1) (A.pl + S.1)]) (fun y => 3 - y.1.1) ⟨(0,.pointer none),rfl,by simp⟩ ?_ rfl (by rw [stage_0];exact Ent.refl _) ?_
  · (repeat (first|exact zM _|refine zI rfl ?_))
  rintro ⟨⟨k,pv⟩,hpv,hk,q1,q2,q3⟩
  dsimp only at hpv hk q1 q2 q3 ⊢
  match k,hk with
  | 0,_ =>
    rw [stage_0]
    repeat (first|(first|refine zB ?_|refine zE ?_|refine zG ?_|refine zK ?_|refine zP ?_|refine zL rfl ?_)|(first|((first|refine zA rfl ?_);first|refine JO_callCE (vs := []) (fs := []) (cs := [ptr c,ptr d]) rfl rfl c1 rfl (fun v _ => ?_)|refine zD rfl rfl ?_|refine zC rfl rfl ?_|refine zH rfl rfl ?_|refine JO_lss rfl rfl rfl ?_|refine JO_index1 rfl rfl (by omega) rfl ?_)))
    refine JL_er (fun h0 h00 hv => ?_) (fun q h0 hv => ?_)
    · subst hv
      repeat (first|(first|refine zB ?_|refine zE ?_|refine zP ?_|refine zJ rfl ?_)|(first|((first|refine zA rfl ?_);first|refine JOq (uJ rfl) rfl ?_|refine zD rfl rfl ?_|refine JO_add rfl rfl (by omega) rfl ?_)))
      exact ⟨⟨(1,.pointer none),rfl,by decide,fun _ => h0,fun h => absurd h (by decide),fun h => absurd h (by decide)⟩,by simp,by (repeat (first|exact zM _|refine zI rfl ?_)),rfl,by rw [stage_1];exact Ent.sel (K := [pt r (.cells #[fc 102 [ptr c,ptr d],fc 103 [ptr c,ptr e],fc 105 [ptr c,ptr e,ptr p]] 107 fz),pt c (.cells #[ptr b] 70 fz1),pt e (.cells #[.int .i64 0] 3 (0,0)),pt p (.cells #[.pointer none] 70 (0,0)),RdB b B.1 B.2])⟩
    · subst hv
      repeat (first|(first|refine zB ?_|refine zE ?_|refine zG ?_|refine zL rfl ?_|refine zV ?_)|(first|((first|refine zA rfl ?_);first|refine JOq (JQ_neIf1 rfl) rfl ?_|refine zD rfl rfl ?_|refine zC rfl rfl ?_)))
      rw [s1 h0]
      exact ret_one rfl rfl (.pointer none,xH q) rfl rfl ((Ent.sel (K := [Ft q K.1 K.2,pt p (.cells #[.pointer none] 70 (0,0)),RdB b B.1 B.2])).trans ((tH h0).trans ((ptr_none h0).trans ent_perm2)))
  | 1,_ =>
    rw [stage_1]
    have h1 := q1 (by decide)
    repeat (first|(first|refine zB ?_|refine zE ?_|refine zG ?_|refine zK ?_|refine zP ?_|refine zL rfl ?_)|(first|((first|refine zA rfl ?_);first|refine JO_callCE (vs := []) (fs := []) (cs := [ptr c,ptr e]) rfl rfl c2 rfl (fun v _ => ?_)|refine zD rfl rfl ?_|refine zC rfl rfl ?_|refine zH rfl rfl ?_|refine JO_lss rfl rfl rfl ?_|refine JO_index1 rfl rfl (by omega) rfl ?_)))
    refine JL_er (fun h0 h00 hv => ?_) (fun q h0 hv => ?_)
    · subst hv
      repeat (first|(first|refine zB ?_|refine zE ?_|refine zP ?_|refine zJ rfl ?_)|(first|((first|refine zA rfl ?_);first|refine JOq (uJ rfl) rfl ?_|refine zD rfl rfl ?_|refine JO_add rfl rfl (by omega) rfl ?_)))
      exact ⟨⟨(2,.pointer none),rfl,by decide,fun _ => h1,fun _ => h0,fun h => absurd h (by decide)⟩,by simp,by (repeat (first|exact zM _|refine zI rfl ?_)),rfl,by rw [stage_2];exact Ent.sel (K := [pt r (.cells #[fc 102 [ptr c,ptr d],fc 103 [ptr c,ptr e],fc 105 [ptr c,ptr e,ptr p]] 107 fz),pt c (.cells #[ptr b] 70 fz1),pt e (.cells #[.int .i64 ((S.1 : Nat) : Int)] 3 (0,0)),pt p (.cells #[.pointer none] 70 (0,0)),RdB b A.rest A.pl])⟩
    · subst hv
      repeat (first|(first|refine zB ?_|refine zE ?_|refine zG ?_|refine zL rfl ?_|refine zV ?_)|(first|((first|refine zA rfl ?_);first|refine JOq (JQ_neIf1 rfl) rfl ?_|refine zD rfl rfl ?_|refine zC rfl rfl ?_)))
      rw [s2 h1 h0]
      exact ret_one rfl rfl (.pointer none,xH q) rfl rfl ((Ent.sel (K := [Ft q S.2.1 S.2.2,pt p (.cells #[.pointer none] 70 (0,0)),RdB b A.rest A.pl])).trans ((tH h0).trans ((ptr_none h0).trans ent_perm2)))
  | 2,_ =>
    rw [stage_2]
    have h1 := q1 (by decide)
    have h2 := q2 (by decide)
    by_cases h3 : A.rest.length < S.1
    · have e1 : takeA A.rest A.pl S.1 = ([],3,A.pl) := by unfold takeA;rw [if_neg (by omega),if_pos (by omega)]
      have e2 : takeR A.rest A.pl S.1 = (A.rest,A.pl) := by unfold takeR;rw [if_neg (by omega),if_pos (by omega)]
      rw [e1,e2] at c3
      repeat (first|(first|refine zB ?_|refine zE ?_|refine zG ?_|refine zK ?_|refine zP ?_|refine zL rfl ?_)|(first|((first|refine zA rfl ?_);first|refine JO_callCE (vs := []) (fs := []) (cs := [ptr c,ptr e,ptr p]) rfl rfl c3 rfl (fun x hx => ?_)|refine zD rfl rfl ?_|refine zC rfl rfl ?_|refine zH rfl rfl ?_|refine JO_lss rfl rfl rfl ?_|refine JO_index1 rfl rfl (by omega) rfl ?_)))
      refine JL_er (fun h0 h00 hv => absurd (show (3 : Int) = 0 from h0) (by decide)) (fun q h0 hv => ?_)
      rw [hv]
      repeat (first|(first|refine zB ?_|refine zE ?_|refine zG ?_|refine zL rfl ?_|refine zV ?_)|(first|((first|refine zA rfl ?_);first|refine JOq (JQ_neIf1 rfl) rfl ?_|refine zD rfl rfl ?_|refine zC rfl rfl ?_)))
      rw [s3 h1 h2 h3]
      exact ret_one rfl rfl (x.1,xH q) hx rfl ((Ent.sel (K := [Ft q 3 A.pl,PtR x.1 3 (A.rest.take S.1) A.pl,pt p (.cells #[x.1] 70 (0,0)),RdB b A.rest A.pl])).trans ((tH h0).trans (ptr_any (by decide))))
    · have e1 : takeA A.rest A.pl S.1 = (A.rest.take S.1,0,0) := by unfold takeA;rw [if_neg (by omega),if_neg (by omega),Int.toNat_natCast]
      have e2 : takeR A.rest A.pl S.1 = (A.rest.drop S.1,A.pl + S.1) := by unfold takeR;rw [if_neg (by omega),if_neg (by omega),Int.toNat_natCast]
      rw [e1,e2] at c3
      repeat (first|(first|refine zB ?_|refine zE ?_|refine zG ?_|refine zK ?_|refine zP ?_|refine zL rfl ?_)|(first|((first|refine zA rfl ?_);first|refine JO_callCE (vs := []) (fs := []) (cs := [ptr c,ptr e,ptr p]) rfl rfl c3 rfl (fun x hx => ?_)|refine zD rfl rfl ?_|refine zC rfl rfl ?_|refine zH rfl rfl ?_|refine JO_lss rfl rfl rfl ?_|refine JO_index1 rfl rfl (by omega) rfl ?_)))
      refine JL_er (fun h0 h00 hv => ?_) (fun q h0 hv => absurd rfl h0)
      rw [hv]
      repeat (first|(first|refine zB ?_|refine zE ?_|refine zP ?_|refine zJ rfl ?_)|(first|((first|refine zA rfl ?_);first|refine JOq (uJ rfl) rfl ?_|refine zD rfl rfl ?_|refine JO_add rfl rfl (by omega) rfl ?_)))
      exact ⟨⟨(3,x.1),hx,Nat.le_refl 3,fun _ => h1,fun _ => h2,fun _ => h3⟩,by simp,by (repeat (first|exact zM _|refine zI rfl ?_)),rfl,by rw [stage_3];exact Ent.sel (K := [PtR x.1 0 (A.rest.take S.1) A.pl,pt p (.cells #[x.1] 70 (0,0)),RdB b (A.rest.drop S.1) (A.pl + S.1)])⟩
  | 3,_ =>
    rw [stage_3]
    rw [s4 (q1 (by decide)) (q2 (by decide)) (q3 (by decide))]
    repeat (first|(first|refine zB ?_|refine zE ?_|refine zG ?_|refine zJ rfl ?_|refine xA ?_|refine zV ?_)|(first|((first|refine zA rfl ?_);first|refine zC rfl rfl ?_|refine JO_lss rfl rfl rfl ?_)))
    exact ret_one rfl rfl (pv,.nilIface) hpv rfl ((Ent.sel (K := [PtR pv 0 (A.rest.take S.1) A.pl,pt p (.cells #[pv] 70 (0,0)),RdB b (A.rest.drop S.1) (A.pl + S.1)])).trans er_none)
set_option maxHeartbeats 1000000 in
theorem section_c (b : Nat) (id : UInt8) (bs : List UInt8) (pl : Int) (hpl : 0 ≤ pl ∧ pl + bs.length ≤ 1000000) :
    Ct Tryz.prog 45 #[ptr b,.int .u8 ((id.toNat : Nat) : Int)] [RdB b bs pl] (RetE (fun x : Value × Value => x.1.oneCell' = true) (fun x => .tuple #[x.1,x.2]) (fun x => [Er x.2 (secA id bs pl).c (secA id bs pl).a,PtR x.1 (secA id bs pl).c (secA id bs pl).part (secA id bs pl).at_,RdB b (secA id bs pl).rest (secA id bs pl).pl])) := by
  refine yE (vs := [_,_]) Tryz.func45 rfl Tryz.ntmps45 (by simp) ?_
  repeat (first|(first|refine zB ?_|refine zE ?_|refine zG ?_)|(first|((first|refine zA rfl ?_);first|refine zC rfl rfl ?_|refine yP rfl rfl rfl (by decide) rfl (fun r => ?_)|refine JO_box1 rfl rfl rfl (fun r => ?_)|refine tL (by rfl) rfl (fun r => ?_)|refine wP rfl rfl rfl ?_|refine zW rfl rfl (by first | rfl | assumption) rfl ?_)))
  rename_i c d p e
  revert r
  intro r
  refine zA rfl (yK rfl (first_c r c d e p b id bs pl (0,0) (0,0) (0,0) hpl) rfl fun x hx => ?_)
  generalize secA id bs pl = W at *
  repeat (first|(first|refine zB ?_|refine zE ?_|refine zG ?_|refine zV ?_)|(first|((first|refine zA rfl ?_);first|refine zD rfl rfl ?_|refine zC rfl rfl ?_|refine zH rfl rfl ?_|refine zW rfl rfl (by first | rfl | assumption) rfl ?_)))
  exact ⟨rfl,_,res_ct rfl (gives_1 rfl rfl) rfl,_,Ent.sel,x,hx,rfl,rfl⟩
end Go.Proofs.YtickblndgihoeaaGreatDoor

/- Layer 3: the program reads the head. -/
namespace Go.Proofs.YtickblndgihoeaaGreatDoor
open Go Go.Sp
def begR : List UInt8 → List UInt8 → Int → List UInt8 × Int
  | [],b,p => (b,p)
  | _ :: _,[],p => ([],p)
  | c :: h,x :: b,p => if x = c then begR h b (p + 1) else (b,p + 1)
theorem begR_ok : ∀ (h b : List UInt8) (p : Int),(begA h b p).1 = 0 → begR h b p = (b.drop h.length,p + h.length) := by
  intro h
  induction h with
  | nil => intro b p _;simp [begR]
  | cons c h ih =>
    intro b p hb
    cases b with
    | nil => simp [begA] at hb
    | cons x b =>
      simp only [begA] at hb
      split at hb
      · rename_i hx
        rw [begR,if_pos hx,ih b _ hb]
        simp;omega
      · simp at hb
def headV : List Value := [.int .u8 67,.int .u8 76,.int .u8 81,.int .u8 89,.int .u8 1]
theorem head_at {k : Nat} (h : k < 5) : ∃ c,headL.drop k = c :: headL.drop (k + 1) ∧ headV[k]? = some (.int .u8 ((c.toNat : Nat) : Int)) := by
  match k,h with
  | 0,_ => exact ⟨67,rfl,rfl⟩
  | 1,_ => exact ⟨76,rfl,rfl⟩
  | 2,_ => exact ⟨81,rfl,rfl⟩
  | 3,_ => exact ⟨89,rfl,rfl⟩
  | 4,_ => exact ⟨1,rfl,rfl⟩
attribute [local irreducible] callFunc Go.method J JL JO Ct JG JM JM1 JQ JQ0 JS CtD xB RdB Er by8 uA ibits smA PtR k1A
set_option maxHeartbeats 2000000 in
theorem begin_c (b : Nat) (bs : List UInt8) (pl : Int) (hpl : 0 ≤ pl ∧ pl + bs.length ≤ 1000000) :
    Ct Tryz.prog 44 #[ptr b] [RdB b bs pl] (RetE (fun _ : Value => True) (fun v => v) (fun v => [Er v (begA headL bs pl).1 (begA headL bs pl).2,RdB b (begR headL bs pl).1 (begR headL bs pl).2])) := by
  refine yE (vs := [_]) Tryz.func44 rfl Tryz.ntmps44 (by simp) ?_
  repeat (first|(first|refine zB ?_|refine zE ?_|refine zG ?_|refine zK ?_)|(first|((first|refine zA rfl ?_);first|refine JO_mark rfl rfl ?_|refine zD rfl rfl ?_|refine zC rfl rfl ?_|refine yF rfl rfl ?_|refine yP rfl rfl rfl (by decide) rfl (fun r => ?_))))
  refine xU (β := { y : Nat × List UInt8 × Int // y.1 ≤ 5 ∧ begA headL bs pl = begA (headL.drop y.1) y.2.1 y.2.2 ∧ begR headL bs pl = begR (headL.drop y.1) y.2.1 y.2.2 ∧ 0 ≤ y.2.2 ∧ y.2.2 + y.2.1.length ≤ 1000000 }) (fun y => [(0,ptr b),(2,.nilIface),(9,.slice (some ⟨r,0,none⟩) 5 5),(10,.int .i64 5),(11,.int .i64 (y.1.1 : Int))]) (fun _ => [])
    (fun y => [pt r (.cells headV.toArray 5 (5,6)),RdB b y.1.2.1 y.1.2.2]) (fun y => 5 - y.1.1) ⟨(0,bs,pl),by simp;omega⟩ ?_ rfl (by exact Ent.refl _) ?_
  · (repeat (first|exact zM _|refine zI rfl ?_))
  rintro ⟨⟨k,s,p⟩,hk,e1,e2,hp⟩
  dsimp only at hk e1 e2 hp ⊢
  rw [e1,e2]
  by_cases h : k = 5
  · subst h
    repeat (first|(first|refine zB ?_|refine zE ?_|refine zG ?_|refine zJ rfl ?_|refine xA ?_|refine zV ?_)|(first|((first|refine zA rfl ?_);first|refine JOq (yS rfl rfl (by omega)) rfl ?_|refine zC rfl rfl ?_)))
    exact ret_one rfl rfl .nilIface trivial rfl ((Ent.sel (K := [RdB b s p])).trans er_none)
  · obtain ⟨c,h1,h2⟩ := head_at (k := k) (by omega)
    have hpl := place_B b s p
    have hby := byte_E b s p (by omega)
    rw [h1] at e1 e2 ⊢
    cases s with
    | nil =>
      simp only [byteA,wX] at hby ⊢
      repeat (first|(first|refine zB ?_|refine zE ?_|refine zG ?_|refine zK ?_|refine zP ?_|refine zL rfl ?_)|(first|((first|refine zA rfl ?_);first|refine JOq (yH rfl rfl (by omega)) rfl ?_|refine wU rfl (wB h2) rfl ?_|refine yK rfl hby rfl (fun v _ => ?_)|refine zD rfl rfl ?_|refine zC rfl rfl ?_|refine zT rfl rfl rfl ?_|refine JO_index1 rfl rfl (by omega) rfl ?_|refine zN rfl (hpl) rfl ?_)))
      refine JL_er (fun h0 h00 hv => absurd h0 (by decide)) (fun q h0 hv => ?_)
      subst hv
      repeat (first|(first|refine zB ?_|refine zE ?_|refine zG ?_|refine zL rfl ?_|refine zV ?_)|(first|((first|refine zA rfl ?_);first|refine JOq (JQ_neIf1 rfl) rfl ?_|refine yK rfl (sfault_c 6 p) rfl (fun q _ => ?_)|refine zD rfl rfl ?_|refine zC rfl rfl ?_|refine yA rfl rfl rfl ?_)|refine yU rfl rfl rfl ?_))
      exact ret_one rfl rfl (xH q) trivial rfl ((Ent.sel (K := [Ft q 6 p,RdB b [] p])).trans (tH (by decide)))
    | cons x t =>
      simp only [byteA,wX] at hby ⊢
      repeat (first|(first|refine zB ?_|refine zE ?_|refine zG ?_|refine zK ?_|refine zP ?_|refine zL rfl ?_)|(first|((first|refine zA rfl ?_);first|refine JOq (yH rfl rfl (by omega)) rfl ?_|refine wU rfl (wB h2) rfl ?_|refine yK rfl hby rfl (fun v _ => ?_)|refine zD rfl rfl ?_|refine zC rfl rfl ?_|refine zT rfl rfl rfl ?_|refine JO_index1 rfl rfl (by omega) rfl ?_|refine zN rfl (hpl) rfl ?_)))
      refine JL_er (fun h0 h00 hv => ?_) (fun q h0 hv => absurd rfl h0)
      subst hv
      by_cases hx : x = c
      · subst hx
        repeat (first|(first|refine zB ?_|refine zE ?_|refine zP ?_|refine zJ rfl ?_)|(first|((first|refine zA rfl ?_|refine zZ rfl rfl ?_);first|refine JOq (uJ rfl) rfl ?_|refine JOq (vW rfl rfl (by omega)) rfl ?_|refine yZ (b := 1) rfl rfl (by omega) rfl ?_|refine zD rfl rfl ?_|refine yJ rfl rfl rfl ?_)))
        exact ⟨⟨(k + 1,t,p + 1),by omega,by rw [begA,if_pos rfl],by rw [begR,if_pos rfl],by simp only [List.length_cons] at hp;simp only;omega⟩,by simp only;omega,by (repeat (first|exact zM _|refine zI rfl ?_)),rfl,Ent.sel⟩
      · have hn : x.toNat ≠ c.toNat := fun h => hx (UInt8.toNat_inj.1 h)
        repeat (first|(first|refine zB ?_|refine zE ?_|refine zG ?_|refine zL rfl ?_|refine zV ?_)|(first|((first|refine zA rfl ?_|refine zZ rfl rfl ?_);first|refine JOq (uJ rfl) rfl ?_|refine JOq (vS rfl rfl (by omega)) rfl ?_|refine yK rfl (sfault_c 6 p) rfl (fun q _ => ?_)|refine zD rfl rfl ?_|refine zC rfl rfl ?_|refine yJ rfl rfl rfl ?_)))
        rw [show begA (c :: headL.drop (k + 1)) (x :: t) p = (6,p) from by rw [begA,if_neg hx],show begR (c :: headL.drop (k + 1)) (x :: t) p = (t,p + 1) from by rw [begR,if_neg hx]]
        exact ret_one rfl rfl (xH q) trivial rfl ((Ent.sel (K := [Ft q 6 p,RdB b t (p + 1)])).trans (tH (by decide)))
end Go.Proofs.YtickblndgihoeaaGreatDoor
