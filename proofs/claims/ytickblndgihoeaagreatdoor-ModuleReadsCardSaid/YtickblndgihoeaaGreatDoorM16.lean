/- Layer 9: the document's bytes of an instruction. -/
import Derived.Test.YtickblndgihoeaaGreatDoorM15
import Derived.Test.YtickblndgihoeaaGreatDoorM7
import Derived.Test.YtickblndgihoeaaGreatDoorM14
set_option linter.unusedSimpArgs false
namespace Go.Proofs.YtickblndgihoeaaGreatDoor
open Go Go.Sp
theorem tO {k : Nat} {a b : List UInt8} {E' E : Env} (h : Env.get E k = some (str a)) (hb : a = b) (hs : Sub E' E) : Sub ((k,str b) :: E') E := zI (hb ▸ h) hs
theorem row_d {n : Nat} (h : n ≤ 24) (h2 : n ≠ 20) : (zQ n).1.d = -1 := by
  match n,h with
  | 0,_ => first | rfl|exact absurd rfl h2
  | 1,_ => first | rfl|exact absurd rfl h2
  | 2,_ => first | rfl|exact absurd rfl h2
  | 3,_ => first | rfl|exact absurd rfl h2
  | 4,_ => first | rfl|exact absurd rfl h2
  | 5,_ => first | rfl|exact absurd rfl h2
  | 6,_ => first | rfl|exact absurd rfl h2
  | 7,_ => first | rfl|exact absurd rfl h2
  | 8,_ => first | rfl|exact absurd rfl h2
  | 9,_ => first | rfl|exact absurd rfl h2
  | 10,_ => first | rfl|exact absurd rfl h2
  | 11,_ => first | rfl|exact absurd rfl h2
  | 12,_ => first | rfl|exact absurd rfl h2
  | 13,_ => first | rfl|exact absurd rfl h2
  | 14,_ => first | rfl|exact absurd rfl h2
  | 15,_ => first | rfl|exact absurd rfl h2
  | 16,_ => first | rfl|exact absurd rfl h2
  | 17,_ => first | rfl|exact absurd rfl h2
  | 18,_ => first | rfl|exact absurd rfl h2
  | 19,_ => first | rfl|exact absurd rfl h2
  | 20,_ => first | rfl|exact absurd rfl h2
  | 21,_ => first | rfl|exact absurd rfl h2
  | 22,_ => first | rfl|exact absurd rfl h2
  | 23,_ => first | rfl|exact absurd rfl h2
  | 24,_ => first | rfl|exact absurd rfl h2
  | k + 25,h => omega
theorem row_cnt {n : Nat} (h : n ≤ 24) : ((zQ n).1.least : Int) < ((zQ n).1.most : Int) ↔ n = 19 ∨ n = 21 := by
  match n,h with
  | 0,_ => simp [zQ]
  | 1,_ => simp [zQ]
  | 2,_ => simp [zQ]
  | 3,_ => simp [zQ]
  | 4,_ => simp [zQ]
  | 5,_ => simp [zQ]
  | 6,_ => simp [zQ]
  | 7,_ => simp [zQ]
  | 8,_ => simp [zQ]
  | 9,_ => simp [zQ]
  | 10,_ => simp [zQ]
  | 11,_ => simp [zQ]
  | 12,_ => simp [zQ]
  | 13,_ => simp [zQ]
  | 14,_ => simp [zQ]
  | 15,_ => simp [zQ]
  | 16,_ => simp [zQ]
  | 17,_ => simp [zQ]
  | 18,_ => simp [zQ]
  | 19,_ => simp [zQ]
  | 20,_ => simp [zQ]
  | 21,_ => simp [zQ]
  | 22,_ => simp [zQ]
  | 23,_ => simp [zQ]
  | 24,_ => simp [zQ]
  | k + 25,h => omega
theorem row_plain {n : Nat} (h : n ≤ 24) (hp : (zQ n).2 = true) : (zQ n).1 = ⟨false,-1,-1,-1,-1,0,0,false⟩ := by
  match n,h with
  | 0,_ => first | rfl | cases hp
  | 1,_ => first | rfl | cases hp
  | 2,_ => first | rfl | cases hp
  | 3,_ => first | rfl | cases hp
  | 4,_ => first | rfl | cases hp
  | 5,_ => first | rfl | cases hp
  | 6,_ => first | rfl | cases hp
  | 7,_ => first | rfl | cases hp
  | 8,_ => first | rfl | cases hp
  | 9,_ => first | rfl | cases hp
  | 10,_ => first | rfl | cases hp
  | 11,_ => first | rfl | cases hp
  | 12,_ => first | rfl | cases hp
  | 13,_ => first | rfl | cases hp
  | 14,_ => first | rfl | cases hp
  | 15,_ => first | rfl | cases hp
  | 16,_ => first | rfl | cases hp
  | 17,_ => first | rfl | cases hp
  | 18,_ => first | rfl | cases hp
  | 19,_ => first | rfl | cases hp
  | 20,_ => first | rfl | cases hp
  | 21,_ => first | rfl | cases hp
  | 22,_ => first | rfl | cases hp
  | 23,_ => first | rfl | cases hp
  | 24,_ => first | rfl | cases hp
  | k + 25,h => omega
theorem row_whole {n : Nat} (h : n ≤ 24) (h1 : n ≠ 1) : (zQ n).1.whole = false := by
  match n,h with
  | 0,_ => first | rfl|exact absurd rfl h1
  | 1,_ => first | rfl|exact absurd rfl h1
  | 2,_ => first | rfl|exact absurd rfl h1
  | 3,_ => first | rfl|exact absurd rfl h1
  | 4,_ => first | rfl|exact absurd rfl h1
  | 5,_ => first | rfl|exact absurd rfl h1
  | 6,_ => first | rfl|exact absurd rfl h1
  | 7,_ => first | rfl|exact absurd rfl h1
  | 8,_ => first | rfl|exact absurd rfl h1
  | 9,_ => first | rfl|exact absurd rfl h1
  | 10,_ => first | rfl|exact absurd rfl h1
  | 11,_ => first | rfl|exact absurd rfl h1
  | 12,_ => first | rfl|exact absurd rfl h1
  | 13,_ => first | rfl|exact absurd rfl h1
  | 14,_ => first | rfl|exact absurd rfl h1
  | 15,_ => first | rfl|exact absurd rfl h1
  | 16,_ => first | rfl|exact absurd rfl h1
  | 17,_ => first | rfl|exact absurd rfl h1
  | 18,_ => first | rfl|exact absurd rfl h1
  | 19,_ => first | rfl|exact absurd rfl h1
  | 20,_ => first | rfl|exact absurd rfl h1
  | 21,_ => first | rfl|exact absurd rfl h1
  | 22,_ => first | rfl|exact absurd rfl h1
  | 23,_ => first | rfl|exact absurd rfl h1
  | 24,_ => first | rfl|exact absurd rfl h1
  | k + 25,h => omega
theorem bytes_of {n : Nat} {x : Ins} (h : n ≤ 24) (hx : x.op = (n : Int)) (h1 : n ≠ 1) (hl : x.l.length ≤ (zQ n).1.most) : tJ (zQ n) x = (((([UInt8.ofNat n] ++ tF (zQ n).1.b x.b) ++ tF (zQ n).1.c x.c) ++ tF (zQ n).1.d x.d) ++ (if ((zQ n).1.least : Int) < ((zQ n).1.most : Int) then wY x.l.length else [])) ++ x.l.flatMap vJ := by
  unfold tJ
  rw [hx,Int.toNat_natCast,row_whole h h1]
  by_cases hp : (zQ n).2 = true
  · rw [row_plain h hp] at hl ⊢
    have : x.l = [] := List.length_eq_zero_iff.1 (by simpa using hl)
    rw [if_pos hp,this]
    simp [tF]
  · rw [if_neg hp]
    simp
theorem bytes_one {x : Ins} (hx : x.op = ((1 : Nat) : Int)) (hl : x.l.length ≤ (zQ 1).1.most) : tJ (zQ 1) x = [UInt8.ofNat 1] ++ wY (foldZ x.a) := by
  have : x.l = [] := List.length_eq_zero_iff.1 (by simpa [zQ] using hl)
  unfold tJ
  rw [hx,this]
  simp [zQ,tF]
attribute [local irreducible] callFunc Go.method J JL JO JR JR1 JRl Ct JG JM JM1 JW JW1 JQ JQ0 JS CtD xB ints fitsP chkA by8 Fact
set_option maxRecDepth 8000 in
set_option maxHeartbeats 16000000 in
theorem dbytes_ok (x : Ins) (p : Option Addr) (cap : Nat) (hc : x.l.length ≤ cap) (hm : x.l.length ≤ 1000) (ha : -9223372036854775808 ≤ x.a ∧ x.a ≤ 9223372036854775807) {n : Nat} (hn : x.op = (n : Int)) (hn24 : n ≤ 24) (hfit : fitsP (zQ n).1 x) :
    Ct Tryz.prog 70 #[.agg (insC x (.slice p x.l.length cap)).toArray] [Vw 1 (.slice p x.l.length cap) x.l.length (ints x.l)] (wF (.tuple #[str (tJ (zQ n) x),.int .i64 0]) []) := by
  have hk := dcheck_c x p cap hc (by omega)
  rw [chk_ok hn hn24 hfit] at hk
  obtain ⟨b1,b2,b3,b4,b5⟩ := row_bounds hn24
  obtain ⟨f1,⟨f2,f3,f4⟩,f5,f6⟩ : headP (zQ n).1 x ∧ (inP x.b (zQ n).1.b ∧ inP x.c (zQ n).1.c ∧ inP x.d (zQ n).1.d) ∧ pairP (zQ n).1 x ∧ okL (zQ n).1.unlike (zQ n).1.l x.l := by unfold fitsP at hfit;exact hfit
  have hb0 := in_bound f2 b1
  have hc0 := in_bound f3 b2
  have hd0 := in_bound f4 b3
  have hmem := okL_mem f6 b4
  have hlen := f1.2.2
  have hone : n = 1 → tJ (zQ n) x = [UInt8.ofNat 1] ++ wY (foldZ x.a) := fun h => by subst h;exact bytes_one hn hlen
  have hgen : n ≠ 1 → tJ (zQ n) x = _ := fun h => bytes_of hn24 hn h hlen
  clear f1 f2 f3 f4 f5 f6 hfit
  generalize tJ (zQ n) x = BY at *
  rcases x with ⟨op,a,b,c,d,l⟩
  dsimp only at *
  subst hn
  obtain ⟨b,rfl⟩ := Int.eq_ofNat_of_zero_le hb0.1
  obtain ⟨c,rfl⟩ := Int.eq_ofNat_of_zero_le hc0.1
  obtain ⟨d,rfl⟩ := Int.eq_ofNat_of_zero_le hd0.1
  have hb := bytes_c b (by omega)
  have hcc := bytes_c c (by omega)
  have hdd := bytes_c d (by omega)
  have hll := bytes_c l.length (by omega)
  have hfold := fold_c a ha
  have hfb := bytes_c (foldZ a) (fold_lt ha)
  have g1 := vM (n := b) (by omega)
  have g2 := vM (n := c) (by omega)
  have g3 := vM (n := d) (by omega)
  have g4 := vM (n := l.length) (by omega)
  have g5 := vM (fold_lt ha)
  unfold insC at hk ⊢
  dsimp only at *
  refine yE (vs := [_]) Tryz.func70 rfl Tryz.ntmps70 (by simp) ?_
  repeat (first|(first|refine zB ?_|refine zE ?_|refine zG ?_)|(first|((first|refine zA rfl ?_);first|refine zC rfl rfl ?_|refine zU rfl (by rfl) rfl ?_|refine yN rfl rfl (fun r => ?_))))
  revert r
  intro n1
  repeat (first|(first|refine zB ?_|refine zE ?_|refine zG ?_|refine zP ?_|refine zJ rfl ?_)|(first|((first|refine zA rfl ?_);first|refine JOq (vW rfl rfl (by omega)) rfl ?_|refine JOq (yX (a := n) rfl (wrap_u8 (by omega))) rfl ?_|refine JOq (JQ_strB (bs := [UInt8.ofNat n]) rfl rfl (by8_one (by omega)).symm) rfl ?_|refine zD rfl rfl ?_|refine zC rfl rfl ?_|refine zF rfl rfl ?_|refine zH rfl rfl ?_|refine yP rfl rfl rfl (by decide) rfl (fun r => ?_)|refine zR rfl (hk) rfl ?_)))
  refine J_cut [(1,ptr n1),(5,str (([UInt8.ofNat n] ++ tF (zQ n).1.b ((b : Nat) : Int)) ++ tF (zQ n).1.c ((c : Nat) : Int)))] [pt n1 (.cells #[.int .i64 ((n : Nat) : Int),.int .i64 a,.int .i64 ((b : Nat) : Int),.int .i64 ((c : Nat) : Int),.int .i64 ((d : Nat) : Int),.slice p l.length cap] 52 (0,0)),Vw 1 (.slice p l.length cap) l.length (ints l),Fact (n ≠ 1)] ?_ ?_
  · match n,hn24 with
    | 0,_ =>
      repeat (first|(first|refine zB ?_|refine zE ?_|refine zG ?_|refine zK ?_|refine zP ?_|refine zJ rfl ?_)|(first|((first|refine zA rfl ?_);first|refine JOq (yL rfl rfl (by omega)) rfl ?_|refine zC rfl rfl ?_)))
      exact ⟨zI rfl (tO rfl (by simp [tF,zQ,vJ]) (zM _)),rfl,(wD (p := 0 ≠ 1) (by decide)).trans (Ent.sel (K := [pt n1 (.cells #[.int .i64 ((0 : Nat) : Int),.int .i64 a,.int .i64 ((b : Nat) : Int),.int .i64 ((c : Nat) : Int),.int .i64 ((d : Nat) : Int),.slice p l.length cap] 52 (0,0)),Vw 1 (.slice p l.length cap) l.length (ints l),Fact (0 ≠ 1)]))⟩
    | 1,_ =>
      repeat (first|(first|refine zB ?_|refine zE ?_|refine zG ?_|refine zK ?_|refine zL rfl ?_|refine zV ?_)|(first|((first|refine zA rfl ?_);first|refine JOq (yT rfl rfl (by omega)) rfl ?_|refine JOq (uQ (a := [UInt8.ofNat 1]) rfl rfl (by simp only [List.length_singleton];omega)) rfl ?_|refine zD rfl rfl ?_|refine zC rfl rfl ?_|refine zF rfl rfl ?_|refine zH rfl rfl ?_|refine zR rfl (hfold) rfl ?_|refine zR rfl (hfb) rfl ?_)))
      rw [hone rfl]
      exact ret_twoV rfl rfl rfl .nil
    | 2,_ =>
      repeat (first|(first|refine zB ?_|refine zE ?_|refine zG ?_|refine zK ?_|refine zP ?_|refine zJ rfl ?_)|(first|((first|refine zA rfl ?_);first|refine JOq (yL rfl rfl (by omega)) rfl ?_|refine zC rfl rfl ?_)))
      exact ⟨zI rfl (tO rfl (by simp [tF,zQ,vJ]) (zM _)),rfl,(wD (p := 2 ≠ 1) (by decide)).trans (Ent.sel (K := [pt n1 (.cells #[.int .i64 ((2 : Nat) : Int),.int .i64 a,.int .i64 ((b : Nat) : Int),.int .i64 ((c : Nat) : Int),.int .i64 ((d : Nat) : Int),.slice p l.length cap] 52 (0,0)),Vw 1 (.slice p l.length cap) l.length (ints l),Fact (2 ≠ 1)]))⟩
    | 3,_ =>
      repeat (first|(first|refine zB ?_|refine zE ?_|refine zG ?_|refine zK ?_|refine zP ?_|refine zJ rfl ?_)|(first|((first|refine zA rfl ?_);first|refine JOq (yL rfl rfl (by omega)) rfl ?_|refine zC rfl rfl ?_)))
      exact ⟨zI rfl (tO rfl (by simp [tF,zQ,vJ]) (zM _)),rfl,(wD (p := 3 ≠ 1) (by decide)).trans (Ent.sel (K := [pt n1 (.cells #[.int .i64 ((3 : Nat) : Int),.int .i64 a,.int .i64 ((b : Nat) : Int),.int .i64 ((c : Nat) : Int),.int .i64 ((d : Nat) : Int),.slice p l.length cap] 52 (0,0)),Vw 1 (.slice p l.length cap) l.length (ints l),Fact (3 ≠ 1)]))⟩
    | 4,_ =>
      repeat (first|(first|refine zB ?_|refine zE ?_|refine zG ?_|refine zK ?_|refine zP ?_|refine zJ rfl ?_)|(first|((first|refine zA rfl ?_);first|refine JOq (yL rfl rfl (by omega)) rfl ?_|refine zC rfl rfl ?_)))
      exact ⟨zI rfl (tO rfl (by simp [tF,zQ,vJ]) (zM _)),rfl,(wD (p := 4 ≠ 1) (by decide)).trans (Ent.sel (K := [pt n1 (.cells #[.int .i64 ((4 : Nat) : Int),.int .i64 a,.int .i64 ((b : Nat) : Int),.int .i64 ((c : Nat) : Int),.int .i64 ((d : Nat) : Int),.slice p l.length cap] 52 (0,0)),Vw 1 (.slice p l.length cap) l.length (ints l),Fact (4 ≠ 1)]))⟩
    | 5,_ =>
      repeat (first|(first|refine zB ?_|refine zE ?_|refine zG ?_|refine zK ?_|refine zP ?_|refine zJ rfl ?_)|(first|((first|refine zA rfl ?_);first|refine JOq (yL rfl rfl (by omega)) rfl ?_|refine zC rfl rfl ?_)))
      exact ⟨zI rfl (tO rfl (by simp [tF,zQ,vJ]) (zM _)),rfl,(wD (p := 5 ≠ 1) (by decide)).trans (Ent.sel (K := [pt n1 (.cells #[.int .i64 ((5 : Nat) : Int),.int .i64 a,.int .i64 ((b : Nat) : Int),.int .i64 ((c : Nat) : Int),.int .i64 ((d : Nat) : Int),.slice p l.length cap] 52 (0,0)),Vw 1 (.slice p l.length cap) l.length (ints l),Fact (5 ≠ 1)]))⟩
    | 6,_ =>
      repeat (first|(first|refine zB ?_|refine zE ?_|refine zG ?_|refine zK ?_|refine zP ?_|refine zJ rfl ?_)|(first|((first|refine zA rfl ?_);first|refine JOq (yL rfl rfl (by omega)) rfl ?_|refine zC rfl rfl ?_)))
      exact ⟨zI rfl (tO rfl (by simp [tF,zQ,vJ]) (zM _)),rfl,(wD (p := 6 ≠ 1) (by decide)).trans (Ent.sel (K := [pt n1 (.cells #[.int .i64 ((6 : Nat) : Int),.int .i64 a,.int .i64 ((b : Nat) : Int),.int .i64 ((c : Nat) : Int),.int .i64 ((d : Nat) : Int),.slice p l.length cap] 52 (0,0)),Vw 1 (.slice p l.length cap) l.length (ints l),Fact (6 ≠ 1)]))⟩
    | 7,_ =>
      repeat (first|(first|refine zB ?_|refine zE ?_|refine zG ?_|refine zK ?_|refine zP ?_|refine zJ rfl ?_)|(first|((first|refine zA rfl ?_);first|refine JOq (yL rfl rfl (by omega)) rfl ?_|refine zC rfl rfl ?_)))
      exact ⟨zI rfl (tO rfl (by simp [tF,zQ,vJ]) (zM _)),rfl,(wD (p := 7 ≠ 1) (by decide)).trans (Ent.sel (K := [pt n1 (.cells #[.int .i64 ((7 : Nat) : Int),.int .i64 a,.int .i64 ((b : Nat) : Int),.int .i64 ((c : Nat) : Int),.int .i64 ((d : Nat) : Int),.slice p l.length cap] 52 (0,0)),Vw 1 (.slice p l.length cap) l.length (ints l),Fact (7 ≠ 1)]))⟩
    | 8,_ =>
      repeat (first|(first|refine zB ?_|refine zE ?_|refine zG ?_|refine zK ?_|refine zP ?_|refine zJ rfl ?_)|(first|((first|refine zA rfl ?_);first|refine JOq (yL rfl rfl (by omega)) rfl ?_|refine zC rfl rfl ?_)))
      exact ⟨zI rfl (tO rfl (by simp [tF,zQ,vJ]) (zM _)),rfl,(wD (p := 8 ≠ 1) (by decide)).trans (Ent.sel (K := [pt n1 (.cells #[.int .i64 ((8 : Nat) : Int),.int .i64 a,.int .i64 ((b : Nat) : Int),.int .i64 ((c : Nat) : Int),.int .i64 ((d : Nat) : Int),.slice p l.length cap] 52 (0,0)),Vw 1 (.slice p l.length cap) l.length (ints l),Fact (8 ≠ 1)]))⟩
    | 9,_ =>
      repeat (first|(first|refine zB ?_|refine zE ?_|refine zG ?_|refine zK ?_|refine zP ?_|refine zL rfl ?_|refine zJ rfl ?_)|(first|((first|refine zA rfl ?_);first|refine JOq (yT rfl rfl (by omega)) rfl ?_|refine JOq (yL rfl rfl (by omega)) rfl ?_|refine JOq (yX (a := b) rfl (xX (by omega))) rfl ?_|refine JOq (uQ (a := [UInt8.ofNat 9]) rfl rfl (by simp only [List.length_singleton];omega)) rfl ?_|refine zD rfl rfl ?_|refine zC rfl rfl ?_|refine zF rfl rfl ?_|refine zH rfl rfl ?_|refine zR rfl (hb) rfl ?_)))
      exact ⟨zI rfl (tO rfl (by simp [tF,zQ,vJ]) (zM _)),rfl,(wD (p := 9 ≠ 1) (by decide)).trans (Ent.sel (K := [pt n1 (.cells #[.int .i64 ((9 : Nat) : Int),.int .i64 a,.int .i64 ((b : Nat) : Int),.int .i64 ((c : Nat) : Int),.int .i64 ((d : Nat) : Int),.slice p l.length cap] 52 (0,0)),Vw 1 (.slice p l.length cap) l.length (ints l),Fact (9 ≠ 1)]))⟩
    | 10,_ =>
      repeat (first|(first|refine zB ?_|refine zE ?_|refine zG ?_|refine zK ?_|refine zP ?_|refine zL rfl ?_|refine zJ rfl ?_)|(first|((first|refine zA rfl ?_);first|refine JOq (yT rfl rfl (by omega)) rfl ?_|refine JOq (yL rfl rfl (by omega)) rfl ?_|refine JOq (yX (a := b) rfl (xX (by omega))) rfl ?_|refine JOq (uQ (a := [UInt8.ofNat 10]) rfl rfl (by simp only [List.length_singleton];omega)) rfl ?_|refine zD rfl rfl ?_|refine zC rfl rfl ?_|refine zF rfl rfl ?_|refine zH rfl rfl ?_|refine zR rfl (hb) rfl ?_)))
      exact ⟨zI rfl (tO rfl (by simp [tF,zQ,vJ]) (zM _)),rfl,(wD (p := 10 ≠ 1) (by decide)).trans (Ent.sel (K := [pt n1 (.cells #[.int .i64 ((10 : Nat) : Int),.int .i64 a,.int .i64 ((b : Nat) : Int),.int .i64 ((c : Nat) : Int),.int .i64 ((d : Nat) : Int),.slice p l.length cap] 52 (0,0)),Vw 1 (.slice p l.length cap) l.length (ints l),Fact (10 ≠ 1)]))⟩
    | 11,_ =>
      repeat (first|(first|refine zB ?_|refine zE ?_|refine zG ?_|refine zK ?_|refine zP ?_|refine zJ rfl ?_)|(first|((first|refine zA rfl ?_);first|refine JOq (yL rfl rfl (by omega)) rfl ?_|refine zC rfl rfl ?_)))
      exact ⟨zI rfl (tO rfl (by simp [tF,zQ,vJ]) (zM _)),rfl,(wD (p := 11 ≠ 1) (by decide)).trans (Ent.sel (K := [pt n1 (.cells #[.int .i64 ((11 : Nat) : Int),.int .i64 a,.int .i64 ((b : Nat) : Int),.int .i64 ((c : Nat) : Int),.int .i64 ((d : Nat) : Int),.slice p l.length cap] 52 (0,0)),Vw 1 (.slice p l.length cap) l.length (ints l),Fact (11 ≠ 1)]))⟩
    | 12,_ =>
      repeat (first|(first|refine zB ?_|refine zE ?_|refine zG ?_|refine zK ?_|refine zP ?_|refine zJ rfl ?_)|(first|((first|refine zA rfl ?_);first|refine JOq (yL rfl rfl (by omega)) rfl ?_|refine zC rfl rfl ?_)))
      exact ⟨zI rfl (tO rfl (by simp [tF,zQ,vJ]) (zM _)),rfl,(wD (p := 12 ≠ 1) (by decide)).trans (Ent.sel (K := [pt n1 (.cells #[.int .i64 ((12 : Nat) : Int),.int .i64 a,.int .i64 ((b : Nat) : Int),.int .i64 ((c : Nat) : Int),.int .i64 ((d : Nat) : Int),.slice p l.length cap] 52 (0,0)),Vw 1 (.slice p l.length cap) l.length (ints l),Fact (12 ≠ 1)]))⟩
    | 13,_ =>
      repeat (first|(first|refine zB ?_|refine zE ?_|refine zG ?_|refine zK ?_|refine zP ?_|refine zJ rfl ?_)|(first|((first|refine zA rfl ?_);first|refine JOq (yL rfl rfl (by omega)) rfl ?_|refine zC rfl rfl ?_)))
      exact ⟨zI rfl (tO rfl (by simp [tF,zQ,vJ]) (zM _)),rfl,(wD (p := 13 ≠ 1) (by decide)).trans (Ent.sel (K := [pt n1 (.cells #[.int .i64 ((13 : Nat) : Int),.int .i64 a,.int .i64 ((b : Nat) : Int),.int .i64 ((c : Nat) : Int),.int .i64 ((d : Nat) : Int),.slice p l.length cap] 52 (0,0)),Vw 1 (.slice p l.length cap) l.length (ints l),Fact (13 ≠ 1)]))⟩
    | 14,_ =>
      repeat (first|(first|refine zB ?_|refine zE ?_|refine zG ?_|refine zK ?_|refine zP ?_|refine zL rfl ?_|refine zJ rfl ?_)|(first|((first|refine zA rfl ?_);first|refine JOq (yT rfl rfl (by omega)) rfl ?_|refine JOq (yL rfl rfl (by omega)) rfl ?_|refine JOq (yX (a := b) rfl (xX (by omega))) rfl ?_|refine JOq (uQ (a := [UInt8.ofNat 14]) rfl rfl (by simp only [List.length_singleton];omega)) rfl ?_|refine zD rfl rfl ?_|refine zC rfl rfl ?_|refine zF rfl rfl ?_|refine zH rfl rfl ?_|refine zR rfl (hb) rfl ?_)))
      exact ⟨zI rfl (tO rfl (by simp [tF,zQ,vJ]) (zM _)),rfl,(wD (p := 14 ≠ 1) (by decide)).trans (Ent.sel (K := [pt n1 (.cells #[.int .i64 ((14 : Nat) : Int),.int .i64 a,.int .i64 ((b : Nat) : Int),.int .i64 ((c : Nat) : Int),.int .i64 ((d : Nat) : Int),.slice p l.length cap] 52 (0,0)),Vw 1 (.slice p l.length cap) l.length (ints l),Fact (14 ≠ 1)]))⟩
    | 15,_ =>
      repeat (first|(first|refine zB ?_|refine zE ?_|refine zG ?_|refine zK ?_|refine zP ?_|refine zL rfl ?_|refine zJ rfl ?_)|(first|((first|refine zA rfl ?_);first|refine JOq (yT rfl rfl (by omega)) rfl ?_|refine JOq (yL rfl rfl (by omega)) rfl ?_|refine JOq (yX (a := b) rfl (xX (by omega))) rfl ?_|refine JOq (uQ (a := [UInt8.ofNat 15]) rfl rfl (by simp only [List.length_singleton];omega)) rfl ?_|refine zD rfl rfl ?_|refine zC rfl rfl ?_|refine zF rfl rfl ?_|refine zH rfl rfl ?_|refine zR rfl (hb) rfl ?_)))
      exact ⟨zI rfl (tO rfl (by simp [tF,zQ,vJ]) (zM _)),rfl,(wD (p := 15 ≠ 1) (by decide)).trans (Ent.sel (K := [pt n1 (.cells #[.int .i64 ((15 : Nat) : Int),.int .i64 a,.int .i64 ((b : Nat) : Int),.int .i64 ((c : Nat) : Int),.int .i64 ((d : Nat) : Int),.slice p l.length cap] 52 (0,0)),Vw 1 (.slice p l.length cap) l.length (ints l),Fact (15 ≠ 1)]))⟩
    | 16,_ =>
      repeat (first|(first|refine zB ?_|refine zE ?_|refine zG ?_|refine zK ?_|refine zP ?_|refine zL rfl ?_|refine zJ rfl ?_)|(first|((first|refine zA rfl ?_);first|refine JOq (yT rfl rfl (by omega)) rfl ?_|refine JOq (yL rfl rfl (by omega)) rfl ?_|refine zC rfl rfl ?_)))
      refine tG none [pt n1 (.cells #[.int .i64 ((16 : Nat) : Int),.int .i64 a,.int .i64 ((b : Nat) : Int),.int .i64 ((c : Nat) : Int),.int .i64 ((d : Nat) : Int),.slice p l.length cap] 52 (0,0))] Ent.sel ?_
      repeat' (first|refine JW_fin rfl ?_|refine JW_n rfl rfl (by kernel_rfl) (by kernel_rfl) (by kernel_rfl) (by kernel_rfl) rfl (by first|exact yX (a := b) rfl (xX (by omega))|exact yX (a := c) rfl (xX (by omega))|exact uQ rfl rfl (by simp only [List.length_append,List.length_singleton];omega)|exact xE rfl|exact vT rfl|exact xL rfl|exact xP rfl) ?_|refine JW_only rfl ?_|refine vV rfl rfl (zN rfl hb rfl ⟨by first|exact (fun _ => Ent.sel),?_⟩)|refine vV rfl rfl (zN rfl hcc rfl ⟨by first|exact (fun _ => Ent.sel),?_⟩))
      exact ⟨zI rfl (tO rfl (by simp [tF,zQ,vJ]) (zM _)),rfl,(wD (p := 16 ≠ 1) (by decide)).trans (Ent.sel (K := [pt n1 (.cells #[.int .i64 ((16 : Nat) : Int),.int .i64 a,.int .i64 ((b : Nat) : Int),.int .i64 ((c : Nat) : Int),.int .i64 ((d : Nat) : Int),.slice p l.length cap] 52 (0,0)),Vw 1 (.slice p l.length cap) l.length (ints l),Fact (16 ≠ 1)]))⟩
    | 17,_ =>
      repeat (first|(first|refine zB ?_|refine zE ?_|refine zG ?_|refine zK ?_|refine zP ?_|refine zL rfl ?_|refine zJ rfl ?_)|(first|((first|refine zA rfl ?_);first|refine JOq (yT rfl rfl (by omega)) rfl ?_|refine JOq (yL rfl rfl (by omega)) rfl ?_|refine zC rfl rfl ?_)))
      refine tG none [pt n1 (.cells #[.int .i64 ((17 : Nat) : Int),.int .i64 a,.int .i64 ((b : Nat) : Int),.int .i64 ((c : Nat) : Int),.int .i64 ((d : Nat) : Int),.slice p l.length cap] 52 (0,0))] Ent.sel ?_
      repeat' (first|refine JW_fin rfl ?_|refine JW_n rfl rfl (by kernel_rfl) (by kernel_rfl) (by kernel_rfl) (by kernel_rfl) rfl (by first|exact yX (a := b) rfl (xX (by omega))|exact yX (a := c) rfl (xX (by omega))|exact uQ rfl rfl (by simp only [List.length_append,List.length_singleton];omega)|exact xE rfl|exact vT rfl|exact xL rfl|exact xP rfl) ?_|refine JW_only rfl ?_|refine vV rfl rfl (zN rfl hb rfl ⟨by first|exact (fun _ => Ent.sel),?_⟩)|refine vV rfl rfl (zN rfl hcc rfl ⟨by first|exact (fun _ => Ent.sel),?_⟩))
      exact ⟨zI rfl (tO rfl (by simp [tF,zQ,vJ]) (zM _)),rfl,(wD (p := 17 ≠ 1) (by decide)).trans (Ent.sel (K := [pt n1 (.cells #[.int .i64 ((17 : Nat) : Int),.int .i64 a,.int .i64 ((b : Nat) : Int),.int .i64 ((c : Nat) : Int),.int .i64 ((d : Nat) : Int),.slice p l.length cap] 52 (0,0)),Vw 1 (.slice p l.length cap) l.length (ints l),Fact (17 ≠ 1)]))⟩
    | 18,_ =>
      repeat (first|(first|refine zB ?_|refine zE ?_|refine zG ?_|refine zK ?_|refine zL rfl ?_|refine zJ rfl ?_)|(first|((first|refine zA rfl ?_);first|refine JOq (yT rfl rfl (by omega)) rfl ?_|refine JOq (yL rfl rfl (by omega)) rfl ?_|refine zC rfl rfl ?_)))
      refine tG none [pt n1 (.cells #[.int .i64 ((18 : Nat) : Int),.int .i64 a,.int .i64 ((b : Nat) : Int),.int .i64 ((c : Nat) : Int),.int .i64 ((d : Nat) : Int),.slice p l.length cap] 52 (0,0))] Ent.sel ?_
      repeat' (first|refine JW_fin rfl ?_|refine JW_n rfl rfl (by kernel_rfl) (by kernel_rfl) (by kernel_rfl) (by kernel_rfl) rfl (by first|exact yX (a := b) rfl (xX (by omega))|exact yX (a := c) rfl (xX (by omega))|exact uQ rfl rfl (by simp only [List.length_append,List.length_singleton];omega)|exact xE rfl|exact vT rfl|exact xL rfl|exact xP rfl) ?_|refine JW_only rfl ?_|refine vV rfl rfl (zN rfl hb rfl ⟨by first|exact (fun _ => Ent.sel),?_⟩)|refine vV rfl rfl (zN rfl hcc rfl ⟨by first|exact (fun _ => Ent.sel),?_⟩))
      exact ⟨zI rfl (tO rfl (by simp [tF,zQ,vJ]) (zM _)),rfl,(wD (p := 18 ≠ 1) (by decide)).trans (Ent.sel (K := [pt n1 (.cells #[.int .i64 ((18 : Nat) : Int),.int .i64 a,.int .i64 ((b : Nat) : Int),.int .i64 ((c : Nat) : Int),.int .i64 ((d : Nat) : Int),.slice p l.length cap] 52 (0,0)),Vw 1 (.slice p l.length cap) l.length (ints l),Fact (18 ≠ 1)]))⟩
    | 19,_ =>
      repeat (first|(first|refine zB ?_|refine zE ?_|refine zG ?_|refine zK ?_|refine zL rfl ?_|refine zJ rfl ?_)|(first|((first|refine zA rfl ?_);first|refine JOq (yT rfl rfl (by omega)) rfl ?_|refine JOq (yL rfl rfl (by omega)) rfl ?_|refine JOq (yX (a := b) rfl (xX (by omega))) rfl ?_|refine JOq (uQ (a := [UInt8.ofNat 19]) rfl rfl (by simp only [List.length_singleton];omega)) rfl ?_|refine zD rfl rfl ?_|refine zC rfl rfl ?_|refine zF rfl rfl ?_|refine zH rfl rfl ?_|refine zR rfl (hb) rfl ?_)))
      exact ⟨zI rfl (tO rfl (by simp [tF,zQ,vJ]) (zM _)),rfl,(wD (p := 19 ≠ 1) (by decide)).trans (Ent.sel (K := [pt n1 (.cells #[.int .i64 ((19 : Nat) : Int),.int .i64 a,.int .i64 ((b : Nat) : Int),.int .i64 ((c : Nat) : Int),.int .i64 ((d : Nat) : Int),.slice p l.length cap] 52 (0,0)),Vw 1 (.slice p l.length cap) l.length (ints l),Fact (19 ≠ 1)]))⟩
    | 20,_ =>
      repeat (first|(first|refine zB ?_|refine zE ?_|refine zG ?_|refine zK ?_|refine zP ?_|refine zL rfl ?_|refine zJ rfl ?_)|(first|((first|refine zA rfl ?_);first|refine JOq (yT rfl rfl (by omega)) rfl ?_|refine JOq (yL rfl rfl (by omega)) rfl ?_|refine JOq (yX (a := b) rfl (xX (by omega))) rfl ?_|refine JOq (uQ (a := [UInt8.ofNat 20]) rfl rfl (by simp only [List.length_singleton];omega)) rfl ?_|refine zD rfl rfl ?_|refine zC rfl rfl ?_|refine zF rfl rfl ?_|refine zH rfl rfl ?_|refine zR rfl (hb) rfl ?_)))
      exact ⟨zI rfl (tO rfl (by simp [tF,zQ,vJ]) (zM _)),rfl,(wD (p := 20 ≠ 1) (by decide)).trans (Ent.sel (K := [pt n1 (.cells #[.int .i64 ((20 : Nat) : Int),.int .i64 a,.int .i64 ((b : Nat) : Int),.int .i64 ((c : Nat) : Int),.int .i64 ((d : Nat) : Int),.slice p l.length cap] 52 (0,0)),Vw 1 (.slice p l.length cap) l.length (ints l),Fact (20 ≠ 1)]))⟩
    | 21,_ =>
      repeat (first|(first|refine zB ?_|refine zE ?_|refine zG ?_|refine zK ?_|refine zP ?_|refine zL rfl ?_|refine zJ rfl ?_)|(first|((first|refine zA rfl ?_);first|refine JOq (yT rfl rfl (by omega)) rfl ?_|refine JOq (yL rfl rfl (by omega)) rfl ?_|refine JOq (yX (a := b) rfl (xX (by omega))) rfl ?_|refine JOq (uQ (a := [UInt8.ofNat 21]) rfl rfl (by simp only [List.length_singleton];omega)) rfl ?_|refine zD rfl rfl ?_|refine zC rfl rfl ?_|refine zF rfl rfl ?_|refine zH rfl rfl ?_|refine zR rfl (hb) rfl ?_)))
      exact ⟨zI rfl (tO rfl (by simp [tF,zQ,vJ]) (zM _)),rfl,(wD (p := 21 ≠ 1) (by decide)).trans (Ent.sel (K := [pt n1 (.cells #[.int .i64 ((21 : Nat) : Int),.int .i64 a,.int .i64 ((b : Nat) : Int),.int .i64 ((c : Nat) : Int),.int .i64 ((d : Nat) : Int),.slice p l.length cap] 52 (0,0)),Vw 1 (.slice p l.length cap) l.length (ints l),Fact (21 ≠ 1)]))⟩
    | 22,_ =>
      repeat (first|(first|refine zB ?_|refine zE ?_|refine zG ?_|refine zK ?_|refine zP ?_|refine zL rfl ?_|refine zJ rfl ?_)|(first|((first|refine zA rfl ?_);first|refine JOq (yT rfl rfl (by omega)) rfl ?_|refine JOq (yL rfl rfl (by omega)) rfl ?_|refine JOq (yX (a := b) rfl (xX (by omega))) rfl ?_|refine JOq (uQ (a := [UInt8.ofNat 22]) rfl rfl (by simp only [List.length_singleton];omega)) rfl ?_|refine zD rfl rfl ?_|refine zC rfl rfl ?_|refine zF rfl rfl ?_|refine zH rfl rfl ?_|refine zR rfl (hb) rfl ?_)))
      exact ⟨zI rfl (tO rfl (by simp [tF,zQ,vJ]) (zM _)),rfl,(wD (p := 22 ≠ 1) (by decide)).trans (Ent.sel (K := [pt n1 (.cells #[.int .i64 ((22 : Nat) : Int),.int .i64 a,.int .i64 ((b : Nat) : Int),.int .i64 ((c : Nat) : Int),.int .i64 ((d : Nat) : Int),.slice p l.length cap] 52 (0,0)),Vw 1 (.slice p l.length cap) l.length (ints l),Fact (22 ≠ 1)]))⟩
    | 23,_ =>
      repeat (first|(first|refine zB ?_|refine zE ?_|refine zG ?_|refine zK ?_|refine zP ?_|refine zL rfl ?_|refine zJ rfl ?_)|(first|((first|refine zA rfl ?_);first|refine JOq (yT rfl rfl (by omega)) rfl ?_|refine JOq (yL rfl rfl (by omega)) rfl ?_|refine zC rfl rfl ?_)))
      refine tG none [pt n1 (.cells #[.int .i64 ((23 : Nat) : Int),.int .i64 a,.int .i64 ((b : Nat) : Int),.int .i64 ((c : Nat) : Int),.int .i64 ((d : Nat) : Int),.slice p l.length cap] 52 (0,0))] Ent.sel ?_
      repeat' (first|refine JW_fin rfl ?_|refine JW_n rfl rfl (by kernel_rfl) (by kernel_rfl) (by kernel_rfl) (by kernel_rfl) rfl (by first|exact yX (a := b) rfl (xX (by omega))|exact yX (a := c) rfl (xX (by omega))|exact uQ rfl rfl (by simp only [List.length_append,List.length_singleton];omega)|exact xE rfl|exact vT rfl|exact xL rfl|exact xP rfl) ?_|refine JW_only rfl ?_|refine vV rfl rfl (zN rfl hb rfl ⟨by first|exact (fun _ => Ent.sel),?_⟩)|refine vV rfl rfl (zN rfl hcc rfl ⟨by first|exact (fun _ => Ent.sel),?_⟩))
      exact ⟨zI rfl (tO rfl (by simp [tF,zQ,vJ]) (zM _)),rfl,(wD (p := 23 ≠ 1) (by decide)).trans (Ent.sel (K := [pt n1 (.cells #[.int .i64 ((23 : Nat) : Int),.int .i64 a,.int .i64 ((b : Nat) : Int),.int .i64 ((c : Nat) : Int),.int .i64 ((d : Nat) : Int),.slice p l.length cap] 52 (0,0)),Vw 1 (.slice p l.length cap) l.length (ints l),Fact (23 ≠ 1)]))⟩
    | 24,_ =>
      repeat (first|(first|refine zB ?_|refine zE ?_|refine zG ?_|refine zK ?_|refine zP ?_|refine zJ rfl ?_)|(first|((first|refine zA rfl ?_);first|refine JOq (yL rfl rfl (by omega)) rfl ?_|refine zC rfl rfl ?_)))
      exact ⟨zI rfl (tO rfl (by simp [tF,zQ,vJ]) (zM _)),rfl,(wD (p := 24 ≠ 1) (by decide)).trans (Ent.sel (K := [pt n1 (.cells #[.int .i64 ((24 : Nat) : Int),.int .i64 a,.int .i64 ((b : Nat) : Int),.int .i64 ((c : Nat) : Int),.int .i64 ((d : Nat) : Int),.slice p l.length cap] 52 (0,0)),Vw 1 (.slice p l.length cap) l.length (ints l),Fact (24 ≠ 1)]))⟩
    | k + 25,h => omega
  refine wE (fun _ _ hs => hs.tail.tail.tail.out fact_out) (fun h1 => ?_)
  rw [hgen h1]
  have o1 := opt_len (m := (zQ n).1.b) hb0
  have o2 := opt_len (m := (zQ n).1.c) hc0
  have o3 := opt_len (m := (zQ n).1.d) hd0
  have hsl : (([UInt8.ofNat n] ++ tF (zQ n).1.b ((b : Nat) : Int)) ++ tF (zQ n).1.c ((c : Nat) : Int)).length ≤ 30 := by simp only [List.length_append,List.length_singleton];omega
  generalize (([UInt8.ofNat n] ++ tF (zQ n).1.b ((b : Nat) : Int)) ++ tF (zQ n).1.c ((c : Nat) : Int)) = s1 at *
  try dsimp only [thn]
  refine zG ?_
  refine J_cut [(1,ptr n1),(5,str (s1 ++ tF (zQ n).1.d ((d : Nat) : Int)))] [pt n1 (.cells #[.int .i64 ((n : Nat) : Int),.int .i64 a,.int .i64 ((b : Nat) : Int),.int .i64 ((c : Nat) : Int),.int .i64 ((d : Nat) : Int),.slice p l.length cap] 52 (0,0)),Vw 1 (.slice p l.length cap) l.length (ints l)] ?_ ?_
  · by_cases h20 : n = 20
    · subst h20
      repeat (first|(first|refine zB ?_|refine zE ?_|refine zG ?_|refine zL rfl ?_)|(first|((first|refine zA rfl ?_);first|refine JOq (yT rfl rfl (by omega)) rfl ?_|refine JOq (yX (a := d) rfl (xX (by omega))) rfl ?_|refine JOq (uQ rfl rfl (by omega)) rfl ?_|refine zD rfl rfl ?_|refine zC rfl rfl ?_|refine zF rfl rfl ?_|refine zH rfl rfl ?_|refine zR rfl (hdd) rfl ?_)))
      exact ⟨zI rfl (tO rfl (by rw [show (zQ 20).1.d = 1000 from rfl,optL_some (by decide)]) (zM _)),rfl,Ent.sel⟩
    · repeat (first|(first|refine zB ?_|refine zE ?_|refine zG ?_|refine zP ?_|refine zJ rfl ?_)|(first|((first|refine zA rfl ?_);first|refine JOq (yL rfl rfl (by omega)) rfl ?_|refine zF rfl rfl ?_|refine zH rfl rfl ?_)))
      exact ⟨zI rfl (tO rfl (by rw [row_d hn24 h20,optL_none rfl,List.append_nil]) (zM _)),rfl,Ent.sel⟩
  have hs2 : (s1 ++ tF (zQ n).1.d ((d : Nat) : Int)).length ≤ 40 := by rw [List.length_append];omega
  generalize (s1 ++ tF (zQ n).1.d ((d : Nat) : Int)) = s2 at *
  try dsimp only [thn]
  refine zG ?_
  refine J_cut [(1,ptr n1),(5,str (s2 ++ (if ((zQ n).1.least : Int) < ((zQ n).1.most : Int) then wY l.length else [])))] [pt n1 (.cells #[.int .i64 ((n : Nat) : Int),.int .i64 a,.int .i64 ((b : Nat) : Int),.int .i64 ((c : Nat) : Int),.int .i64 ((d : Nat) : Int),.slice p l.length cap] 52 (0,0)),Vw 1 (.slice p l.length cap) l.length (ints l)] ?_ ?_
  · by_cases hcn : n = 19 ∨ n = 21
    · rw [if_pos ((row_cnt hn24).2 hcn)]
      rcases hcn with hcn | hcn <;> subst hcn <;> (repeat (first|(first|refine zB ?_|refine zE ?_|refine zG ?_|refine zL rfl ?_)|(first|((first|refine zA rfl ?_|refine zZ rfl rfl ?_);first|refine JOq (yT rfl rfl (by omega)) rfl ?_|refine JOq (yL rfl rfl (by omega)) rfl ?_|refine JOq (yX (a := l.length) rfl (xX (by omega))) rfl ?_|refine JOq (uQ rfl rfl (by omega)) rfl ?_|refine zD rfl rfl ?_|refine zC rfl rfl ?_|refine yF rfl rfl ?_|refine zF rfl rfl ?_|refine zH rfl rfl ?_|refine yA rfl rfl rfl ?_|refine yJ rfl rfl rfl ?_|refine zR rfl (hll) rfl ?_)|refine yU rfl rfl rfl ?_))) <;> exact ⟨by (repeat (first|exact zM _|refine zI rfl ?_)),rfl,Ent.sel⟩
    · rw [if_neg (fun h => hcn ((row_cnt hn24).1 h)),List.append_nil]
      repeat (first|(first|refine zB ?_|refine zE ?_|refine zG ?_|refine zP ?_|refine zJ rfl ?_)|(first|((first|refine zA rfl ?_|refine zZ rfl rfl ?_);first|refine JOq (yL rfl rfl (by omega)) rfl ?_|refine zD rfl rfl ?_|refine zF rfl rfl ?_|refine zH rfl rfl ?_|refine yJ rfl rfl rfl ?_)))
      exact ⟨by (repeat (first|exact zM _|refine zI rfl ?_)),rfl,Ent.sel⟩
  have hs3 : (s2 ++ (if ((zQ n).1.least : Int) < ((zQ n).1.most : Int) then wY l.length else [])).length ≤ 60 := by
    rw [List.length_append]
    split
    · omega
    · simp;omega
  generalize (s2 ++ (if ((zQ n).1.least : Int) < ((zQ n).1.most : Int) then wY l.length else [])) = s3 at *
  repeat (first|(first|refine zB ?_|refine zE ?_|refine zG ?_|refine zK ?_)|(first|((first|refine zA rfl ?_);first|refine zC rfl rfl ?_)))
  refine xU (β := { i : Nat // i ≤ l.length }) (fun i => [(1,ptr n1),(5,str (s3 ++ (l.take i.1).flatMap vJ)),(6,.int .i64 (i.1 : Int))]) (fun _ => []) (fun i => [pt n1 (.cells #[.int .i64 ((n : Nat) : Int),.int .i64 a,.int .i64 ((b : Nat) : Int),.int .i64 ((c : Nat) : Int),.int .i64 ((d : Nat) : Int),.slice p l.length cap] 52 (0,0)),Vw 1 (.slice p l.length cap) l.length (ints l)]) (fun i => l.length - i.1) ⟨0,by omega⟩ ?_ rfl Ent.sel ?_
  · exact zI rfl (tO rfl (by simp) (zI rfl (zM _)))
  rintro ⟨i,hi⟩
  dsimp only
  have hfl := flat_len (l := l.take i) (fun n hn => hmem n (List.mem_of_mem_take hn))
  rw [List.length_take] at hfl
  by_cases hil : i < l.length
  · obtain ⟨z,hz⟩ : ∃ z,l[i]? = some z := ⟨_,List.getElem?_eq_getElem hil⟩
    have hz1 := hmem z (List.mem_of_getElem? hz)
    obtain ⟨m,rfl⟩ := Int.eq_ofNat_of_zero_le hz1.1
    have hbm := bytes_c m (by omega)
    have gm := vM (n := m) (by omega)
    repeat (first|(first|refine zB ?_|refine zE ?_|refine zG ?_|refine zK ?_|refine zP ?_|refine zL rfl ?_)|(first|((first|refine zA rfl ?_);first|refine JOq (yH rfl rfl (by omega)) rfl ?_|refine JO_indexV1 (cs := ints l) rfl rfl hil _ (ints_get hz) rfl fun b1 o1 hl1 => ?_|refine wU rfl hl1 rfl ?_|refine JOq (yX (a := m) rfl (xX (by omega))) rfl ?_|refine JOq (uQ rfl rfl (by rw [List.length_append];omega)) rfl ?_|refine yZ (b := 1) rfl rfl (by omega) rfl ?_|refine zD rfl rfl ?_|refine zC rfl rfl ?_|refine yF rfl rfl ?_|refine zF rfl rfl ?_|refine zH rfl rfl ?_|refine zR rfl (hbm) rfl ?_)))
    exact ⟨⟨i + 1,by omega⟩,by simp only;omega,zI rfl (tO rfl (by rw [List.take_add_one,hz];simp [vJ]) (zI rfl (zM _))),rfl,Ent.sel⟩
  · obtain rfl : i = l.length := by omega
    rw [List.take_length]
    repeat (first|(first|refine zB ?_|refine zE ?_|refine zG ?_|refine zJ rfl ?_|refine xA ?_|refine zV ?_)|(first|((first|refine zA rfl ?_);first|refine JOq (yS rfl rfl (by omega)) rfl ?_|refine zD rfl rfl ?_|refine zC rfl rfl ?_|refine yF rfl rfl ?_|refine zF rfl rfl ?_|refine zH rfl rfl ?_)))
    exact ret_twoV rfl rfl rfl .nil
end Go.Proofs.YtickblndgihoeaaGreatDoor
