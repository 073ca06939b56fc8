/- Layer 9: the document's check. -/
import Derived.Test.YtickblndgihoeaaGreatDoorM13
import Derived.Test.YtickblndgihoeaaGreatDoorM7
set_option linter.unusedSimpArgs false
namespace Go.Proofs.YtickblndgihoeaaGreatDoor
open Go Go.Sp
def allP (l : List Int) (m : Int) : Prop := ∀ (i : Nat) (n : Int),l[i]? = some n → 0 ≤ n ∧ n ≤ m
def unP (l : List Int) : Prop := ∀ (i j : Nat),j < i → i < l.length → l[i]? ≠ l[j]?
def btw (n m : Int) : Prop := 0 ≤ n ∧ n ≤ m
attribute [local irreducible] callFunc Go.method J JL JO JR JR1 JRl Ct JG JM JM1 JW JW1 JQ JQ0 JS CtD xB ints
theorem in_c (n m : Int) : Ct Tryz.prog 157 #[.int .i64 n,.int .i64 m] [] (wF (.bool (bP (btw n m))) []) := by
  refine yE (vs := [_,_]) Tryz.func157 rfl Tryz.ntmps157 (by simp) ?_
  by_cases h1 : 0 ≤ n
  · by_cases h2 : n ≤ m
    · rw [show bP (btw n m) = true from (bP_t ⟨h1,h2⟩).symm]
      repeat (first|(first|refine zB ?_|refine zE ?_|refine zG ?_|refine zV ?_)|(first|((first|refine zA rfl ?_|refine zZ rfl rfl ?_);first|refine JOq (JQ_leqT rfl rfl (by omega)) rfl ?_|refine JOq (JQ_geqT rfl rfl (by omega)) rfl ?_|refine zD rfl rfl ?_|refine zC rfl rfl ?_|refine yA rfl rfl rfl ?_)))
      exact zY rfl rfl .nil
    · rw [show bP (btw n m) = false from (bP_f (fun h => h2 h.2)).symm]
      repeat (first|(first|refine zB ?_|refine zE ?_|refine zG ?_|refine zV ?_)|(first|((first|refine zA rfl ?_|refine zZ rfl rfl ?_);first|refine JOq (JQ_leqF rfl rfl (by omega)) rfl ?_|refine JOq (JQ_geqT rfl rfl (by omega)) rfl ?_|refine zD rfl rfl ?_|refine zC rfl rfl ?_|refine yA rfl rfl rfl ?_)))
      exact zY rfl rfl .nil
  · rw [show bP (btw n m) = false from (bP_f (fun h => h1 h.1)).symm]
    repeat (first|(first|refine zB ?_|refine zE ?_|refine zG ?_|refine zV ?_)|(first|((first|refine zA rfl ?_);first|refine JOq (JQ_geqF rfl rfl (by omega)) rfl ?_|refine zD rfl rfl ?_|refine zC rfl rfl ?_|refine yJ rfl rfl rfl ?_)|refine yU rfl rfl rfl ?_))
    exact zY rfl rfl .nil
theorem all_c (l : List Int) (m : Int) (p : Option Addr) (cap : Nat) (hm : l.length ≤ 1000000) : Ct Tryz.prog 158 #[.slice p l.length cap,.int .i64 m] [Vw 1 (.slice p l.length cap) l.length (ints l)] (wF (.bool (bP (allP l m))) []) := by
  refine yE (vs := [_,_]) Tryz.func158 rfl Tryz.ntmps158 (by simp) ?_
  repeat (first|(first|refine zB ?_|refine zE ?_|refine zG ?_|refine zK ?_)|(first|((first|refine zA rfl ?_);first|refine zC rfl rfl ?_)))
  refine xU (β := { i : Nat // i ≤ l.length ∧ ∀ (j : Nat) (n : Int),j < i → l[j]? = some n → btw n m }) (fun i => [(0,.slice p l.length cap),(1,.int .i64 m),(5,.int .i64 (i.1 : Int))]) (fun _ => []) (fun _ => [Vw 1 (.slice p l.length cap) l.length (ints l)]) (fun i => l.length - i.1) ⟨0,by omega,fun j n h => absurd h (by omega)⟩ ?_ rfl Ent.sel ?_
  · (repeat (first|exact zM _|refine zI rfl ?_))
  rintro ⟨i,hi,hpre⟩
  dsimp only
  by_cases hil : i < l.length
  · obtain ⟨z,hz⟩ : ∃ z,l[i]? = some z := ⟨_,List.getElem?_eq_getElem hil⟩
    have hin := in_c z m
    by_cases hb : btw z m
    · rw [show bP (btw z m) = true from (bP_t hb).symm] at hin
      repeat (first|(first|refine zB ?_|refine zE ?_|refine zG ?_|refine zK ?_|refine zP ?_|refine zL rfl ?_|refine zJ rfl ?_)|(first|((first|refine zA rfl ?_);first|refine JOq (yH rfl rfl (by omega)) rfl ?_|refine JO_indexV1 (cs := ints l) rfl rfl hil _ (ints_get hz) rfl fun b1 o1 hl1 => ?_|refine wU rfl hl1 rfl ?_|refine yZ (b := 1) rfl rfl (by omega) rfl ?_|refine zD rfl rfl ?_|refine zC rfl rfl ?_|refine yF rfl rfl ?_|refine xD rfl rfl ?_|refine zR rfl (hin) rfl ?_)))
      refine ⟨⟨i + 1,by omega,fun j n hj hn => ?_⟩,by simp only;omega,by (repeat (first|exact zM _|refine zI rfl ?_)),rfl,Ent.sel⟩
      by_cases hji : j = i
      · subst hji
        rw [hz] at hn
        cases hn
        exact hb
      · exact hpre j n (by omega) hn
    · rw [show bP (btw z m) = false from (bP_f hb).symm] at hin
      repeat (first|(first|refine zB ?_|refine zE ?_|refine zG ?_|refine zK ?_|refine zP ?_|refine zL rfl ?_|refine zV ?_)|(first|((first|refine zA rfl ?_);first|refine JOq (yH rfl rfl (by omega)) rfl ?_|refine JO_indexV1 (cs := ints l) rfl rfl hil _ (ints_get hz) rfl fun b1 o1 hl1 => ?_|refine wU rfl hl1 rfl ?_|refine zD rfl rfl ?_|refine zC rfl rfl ?_|refine yF rfl rfl ?_|refine xD rfl rfl ?_|refine zR rfl (hin) rfl ?_)))
      rw [show bP (allP l m) = false from (bP_f (fun h => hb (h i z hz))).symm]
      exact zY rfl rfl .nil
  · obtain rfl : i = l.length := by omega
    repeat (first|(first|refine zB ?_|refine zE ?_|refine zG ?_|refine zJ rfl ?_|refine xA ?_|refine zV ?_)|(first|((first|refine zA rfl ?_);first|refine JOq (yS rfl rfl (by omega)) rfl ?_|refine zD rfl rfl ?_|refine zC rfl rfl ?_|refine yF rfl rfl ?_)))
    rw [show bP (allP l m) = true from (bP_t (fun i n hn => hpre i n (List.getElem?_eq_some_iff.1 hn).1 hn)).symm]
    exact zY rfl rfl .nil
set_option maxHeartbeats 1000000 in
theorem unlike_c (l : List Int) (p : Option Addr) (cap : Nat) (hm : l.length ≤ 1000000) : Ct Tryz.prog 159 #[.slice p l.length cap] [Vw 1 (.slice p l.length cap) l.length (ints l)] (wF (.bool (bP (unP l))) []) := by
  refine yE (vs := [_]) Tryz.func159 rfl Tryz.ntmps159 (by simp) ?_
  repeat (first|(first|refine zB ?_|refine zE ?_|refine zG ?_|refine zK ?_)|(first|((first|refine zA rfl ?_);first|refine zC rfl rfl ?_)))
  refine xU (β := { i : Nat // i ≤ l.length ∧ ∀ (k j : Nat),k < i → j < k → l[k]? ≠ l[j]? }) (fun i => [(0,.slice p l.length cap),(3,.int .i64 (i.1 : Int))]) (fun _ => []) (fun _ => [Vw 1 (.slice p l.length cap) l.length (ints l)]) (fun i => l.length - i.1) ⟨0,by omega,fun j n h => absurd h (by omega)⟩ ?_ rfl Ent.sel ?_
  · (repeat (first|exact zM _|refine zI rfl ?_))
  rintro ⟨i,hi,hpre⟩
  dsimp only
  by_cases hil : i < l.length
  · obtain ⟨z,hz⟩ : ∃ z,l[i]? = some z := ⟨_,List.getElem?_eq_getElem hil⟩
    repeat (first|(first|refine zB ?_|refine zE ?_|refine zG ?_|refine zK ?_|refine zP ?_|refine zL rfl ?_)|(first|((first|refine zA rfl ?_);first|refine JOq (yH rfl rfl (by omega)) rfl ?_|refine zD rfl rfl ?_|refine zC rfl rfl ?_|refine yF rfl rfl ?_)))
    refine J_inX (α := { _u : Unit // ∀ j,j < i → l[i]? ≠ l[j]? }) (fun _ => [(0,.slice p l.length cap),(3,.int .i64 (i : Int))]) (fun _ => [Vw 1 (.slice p l.length cap) l.length (ints l)]) ?_ ?_
    · refine xU (β := { k : Nat // k ≤ i ∧ ∀ j,j < k → l[i]? ≠ l[j]? }) (fun k => [(0,.slice p l.length cap),(3,.int .i64 (i : Int)),(4,.int .i64 (k.1 : Int))]) (fun _ => []) (fun _ => [Vw 1 (.slice p l.length cap) l.length (ints l)]) (fun k => i - k.1) ⟨0,by omega,fun j h => absurd h (by omega)⟩ ?_ rfl Ent.sel ?_
      · (repeat (first|exact zM _|refine zI rfl ?_))
      rintro ⟨k,hk,hkp⟩
      dsimp only
      by_cases hki : k < i
      · have hkl : k < l.length := by omega
        obtain ⟨y,hy⟩ : ∃ y,l[k]? = some y := ⟨_,List.getElem?_eq_getElem hkl⟩
        refine wE (φ := ∃ b o,p = some ⟨b,o,none⟩) (fun F w hs => hs.tail.out (fun k hk => xW (by omega) k hk)) (fun hp => ?_)
        obtain ⟨q,o,rfl⟩ := hp
        repeat (first|(first|refine zB ?_|refine zE ?_|refine zG ?_|refine zK ?_|refine zP ?_|refine zL rfl ?_)|(first|((first|refine zA rfl ?_);first|refine JOq (yH rfl rfl (by omega)) rfl ?_|refine zD rfl rfl ?_)))
        by_cases hzy : z = y
        · repeat (first|refine vO ?_|refine tA rfl ?_|refine JG_n rfl rfl rfl (by kernel_rfl) (by kernel_rfl) rfl Ent.sel (by first|exact JQ_index1 (j := i) rfl rfl hil|exact JQ_index1 (j := k) rfl rfl hkl|exact tC rfl (lds_vw1 (n := l.length) (cap := cap) (j := i) hil (ints_get hz))|exact tC rfl (lds_vw1 (n := l.length) (cap := cap) (j := k) hkl (ints_get hy))|exact yT rfl rfl hzy|exact xE rfl) ?_)
          repeat (first|(first|refine zB ?_|refine zE ?_|refine zG ?_|refine zL rfl ?_|refine zV ?_)|(first|((first|refine zA rfl ?_);first|refine zC rfl rfl ?_)))
          rw [show bP (unP l) = false from (bP_f (fun h => h i k hki hil (by rw [hz,hy,hzy]))).symm]
          exact zY rfl rfl .nil
        · repeat (first|refine vO ?_|refine tA rfl ?_|refine JG_n rfl rfl rfl (by kernel_rfl) (by kernel_rfl) rfl Ent.sel (by first|exact JQ_index1 (j := i) rfl rfl hil|exact JQ_index1 (j := k) rfl rfl hkl|exact tC rfl (lds_vw1 (n := l.length) (cap := cap) (j := i) hil (ints_get hz))|exact tC rfl (lds_vw1 (n := l.length) (cap := cap) (j := k) hkl (ints_get hy))|exact yL rfl rfl hzy|exact xE rfl) ?_)
          repeat (first|(first|refine zB ?_|refine zE ?_|refine zP ?_|refine zJ rfl ?_)|(first|((first|refine zA rfl ?_);first|refine yZ (b := 1) rfl rfl (by omega) rfl ?_|refine zD rfl rfl ?_|refine zC rfl rfl ?_)))
          refine ⟨⟨k + 1,by omega,fun j hj => ?_⟩,by simp only;omega,by (repeat (first|exact zM _|refine zI rfl ?_)),rfl,Ent.sel⟩
          by_cases hjk : j = k
          · subst hjk
            rw [hz,hy]
            exact fun h => hzy (Option.some.inj h)
          · exact hkp j (by omega)
      · obtain rfl : k = i := by omega
        repeat (first|(first|refine zB ?_|refine zE ?_|refine zG ?_|refine zJ rfl ?_|refine xA ?_)|(first|((first|refine zA rfl ?_);first|refine JOq (yS rfl rfl (by omega)) rfl ?_|refine zD rfl rfl ?_)))
        exact ⟨⟨(),hkp⟩,by (repeat (first|exact zM _|refine zI rfl ?_)),rfl,Ent.sel⟩
    · rintro ⟨_,hkp⟩
      repeat (first|(first|refine zB ?_|refine zE ?_)|(first|((first|refine zA rfl ?_);first|refine yZ (b := 1) rfl rfl (by omega) rfl ?_|refine zD rfl rfl ?_|refine zC rfl rfl ?_)))
      refine ⟨⟨i + 1,by omega,fun k j hk hj => ?_⟩,by simp only;omega,by (repeat (first|exact zM _|refine zI rfl ?_)),rfl,Ent.sel⟩
      by_cases hki : k = i
      · subst hki
        exact hkp j hj
      · exact hpre k j (by omega) hj
  · obtain rfl : i = l.length := by omega
    repeat (first|(first|refine zB ?_|refine zE ?_|refine zG ?_|refine zJ rfl ?_|refine xA ?_|refine zV ?_)|(first|((first|refine zA rfl ?_);first|refine JOq (yS rfl rfl (by omega)) rfl ?_|refine zD rfl rfl ?_|refine zC rfl rfl ?_|refine yF rfl rfl ?_)))
    rw [show bP (unP l) = true from (bP_t (fun i j hj hi => hpre i j hi hj)).symm]
    exact zY rfl rfl .nil
theorem okL_split (un : Bool) (rl : Int) (l : List Int) : okL un rl l ↔ allP l rl ∧ (un = true → unP l) := by
  constructor
  · intro h
    refine ⟨fun i n hn => ((h i (List.getElem?_eq_some_iff.1 hn).1) n hn).2,fun hu i j hj hi he => ?_⟩
    obtain ⟨z,hz⟩ : ∃ z,l[i]? = some z := ⟨_,List.getElem?_eq_getElem hi⟩
    exact (h i hi z hz).1 hu j hj (by rw [← he,hz])
  · rintro ⟨h1,h2⟩ i hi n hn
    exact ⟨fun hu j hj he => h2 hu i j hj hi (by rw [hn,he]),h1 i n hn⟩
theorem dec_bP {p q : Prop} {_ : Decidable p} (h : p ↔ q) : decide p = bP q := by
  by_cases hp : p
  · rw [decide_eq_true hp];exact bP_t (h.1 hp)
  · rw [decide_eq_false hp];exact bP_f (fun hq => hp (h.2 hq))
theorem LPt {least most : Nat} {rl : Int} {l : List Int} (h : least ≤ l.length ∧ l.length ≤ most) : bP (allP l rl) = bP ((least ≤ l.length ∧ l.length ≤ most) ∧ okL false rl l) :=
  bP_same (by rw [okL_split];exact ⟨fun ha => ⟨h,ha,fun h => by cases h⟩,fun ha => ha.2.1⟩)
theorem LPu {least most : Nat} {rl : Int} {l : List Int} (h : least ≤ l.length ∧ l.length ≤ most) (ha : allP l rl) : bP (unP l) = bP ((least ≤ l.length ∧ l.length ≤ most) ∧ okL true rl l) :=
  bP_same (by rw [okL_split];exact ⟨fun hu => ⟨h,ha,fun _ => hu⟩,fun hu => hu.2.2 rfl⟩)
theorem LPx {least most : Nat} {un : Bool} {rl : Int} {l : List Int} (ha : ¬ allP l rl) : false = bP ((least ≤ l.length ∧ l.length ≤ most) ∧ okL un rl l) :=
  bP_f (by rw [okL_split];exact fun h => ha h.2.1)
theorem LPf {least most : Nat} {un : Bool} {rl : Int} {l : List Int} (h : ¬ (least ≤ l.length ∧ l.length ≤ most)) : false = bP ((least ≤ l.length ∧ l.length ≤ most) ∧ okL un rl l) :=
  bP_f (fun h2 => h h2.1)
theorem L0 {least most : Nat} {un : Bool} {rl : Int} {l : List Int} (h1 : least = 0) (h2 : most = 0) : decide ((l.length : Int) = 0) = bP ((least ≤ l.length ∧ l.length ≤ most) ∧ okL un rl l) :=
  dec_bP (by
    subst h1 h2
    constructor
    · intro h
      exact ⟨by omega,fun i hi => absurd hi (by omega)⟩
    · intro h
      omega)
attribute [local irreducible] allP unP okL fitsP chkA tK
set_option maxRecDepth 8000 in
set_option linter.unusedSimpArgs false in
set_option maxHeartbeats 16000000 in
theorem dcheck_c (x : Ins) (p : Option Addr) (cap : Nat) (hc : x.l.length ≤ cap) (hm : x.l.length ≤ 1000000) :
    Ct Tryz.prog 122 #[.agg (insC x (.slice p x.l.length cap)).toArray] [Vw 1 (.slice p x.l.length cap) x.l.length (ints x.l)] (wF (.int .i64 (chkA x)) []) := by
  refine yE (vs := [_]) Tryz.func122 rfl Tryz.ntmps122 (by simp) ?_
  unfold insC
  by_cases h1 : x.op < 0
  · rw [chk_out (.inl h1)]
    repeat (first|(first|refine zB ?_|refine zE ?_|refine zG ?_|refine zL rfl ?_|refine zV ?_)|(first|((first|refine zA rfl ?_);first|refine JOq (yH rfl rfl (by omega)) rfl ?_|refine zD rfl rfl ?_|refine zC rfl rfl ?_|refine zF rfl rfl ?_|refine zH rfl rfl ?_|refine yA rfl rfl rfl ?_|refine yN rfl rfl (fun r => ?_))|refine yU rfl rfl rfl ?_))
    exact zY rfl rfl .nil
  by_cases h2 : 24 < x.op
  · rw [chk_out (.inr h2)]
    repeat (first|(first|refine zB ?_|refine zE ?_|refine zG ?_|refine zL rfl ?_|refine zV ?_)|(first|((first|refine zA rfl ?_|refine zZ rfl rfl ?_);first|refine JOq (yS rfl rfl (by omega)) rfl ?_|refine JOq (JQ_gtrT rfl rfl (by omega)) rfl ?_|refine zD rfl rfl ?_|refine zC rfl rfl ?_|refine zF rfl rfl ?_|refine zH rfl rfl ?_|refine yJ rfl rfl rfl ?_|refine yN rfl rfl (fun r => ?_))))
    exact zY rfl rfl .nil
  obtain ⟨n,hn⟩ := Int.eq_ofNat_of_zero_le (show 0 ≤ x.op by omega)
  have hn24 : n ≤ 24 := by omega
  have hfit : fitsP (zQ n).1 x ↔ headP (zQ n).1 x ∧ (inP x.b (zQ n).1.b ∧ inP x.c (zQ n).1.c ∧ inP x.d (zQ n).1.d) ∧ pairP (zQ n).1 x ∧ okL (zQ n).1.unlike (zQ n).1.l x.l := by unfold fitsP;exact Iff.rfl
  have hhead : headP (zQ n).1 x ↔ ((zQ n).1.whole = true ∨ x.a = 0) ∧ (zQ n).1.least ≤ x.l.length ∧ x.l.length ≤ (zQ n).1.most := Iff.rfl
  have hpair : pairP (zQ n).1 x ↔ ((zQ n).1.unlike = false ∨ (zQ n).1.c = -1 ∨ x.b ≠ x.c) := Iff.rfl
  have hok := chk_ok hn hn24
  have hbad := chk_bad hn hn24
  generalize chkA x = K at *
  generalize fitsP (zQ n).1 x = FP at *
  generalize headP (zQ n).1 x = HP1 at *
  generalize pairP (zQ n).1 x = PP at *
  rcases x with ⟨op,a,b,c,d,l⟩
  dsimp only at *
  subst hn
  have hin := in_c
  have hall := fun m => all_c l m p cap hm
  have hun := unlike_c l p cap hm
  repeat (first|(first|refine zB ?_|refine zE ?_|refine zG ?_|refine zP ?_|refine zJ rfl ?_)|(first|((first|refine zA rfl ?_|refine zZ rfl rfl ?_);first|refine JOq (yS rfl rfl (by omega)) rfl ?_|refine JOq (JQ_gtrF rfl rfl (by omega)) rfl ?_|refine zD rfl rfl ?_|refine zC rfl rfl ?_|refine zF rfl rfl ?_|refine zH rfl rfl ?_|refine yJ rfl rfl rfl ?_|refine JO_eqI rfl rfl rfl ?_|refine yN rfl rfl (fun r => ?_))))
  revert r
  intro n1
  refine JL_cut [(1,ptr n1),(2,.int .i64 0),(3,.bool (bP ((zQ n).1.whole = true ∨ a = 0)))] [pt n1 (.cells #[.int .i64 ((n : Nat) : Int),.int .i64 a,.int .i64 b,.int .i64 c,.int .i64 d,.slice p l.length cap] 52 (0,0)),Vw 1 (.slice p l.length cap) l.length (ints l)] ?_ ?_
  · match n,hn24 with
    | 0,_ => ?_
    | 1,_ => ?_
    | 2,_ => ?_
    | 3,_ => ?_
    | 4,_ => ?_
    | 5,_ => ?_
    | 6,_ => ?_
    | 7,_ => ?_
    | 8,_ => ?_
    | 9,_ => ?_
    | 10,_ => ?_
    | 11,_ => ?_
    | 12,_ => ?_
    | 13,_ => ?_
    | 14,_ => ?_
    | 15,_ => ?_
    | 16,_ => ?_
    | 17,_ => ?_
    | 18,_ => ?_
    | 19,_ => ?_
    | 20,_ => ?_
    | 21,_ => ?_
    | 22,_ => ?_
    | 23,_ => ?_
    | 24,_ => ?_
    | k + 25,h => omega
    all_goals
      repeat (first|(first|refine zE ?_)|(first|((first|refine zA rfl ?_|refine zZ rfl rfl ?_);first|refine zC rfl rfl ?_|refine zF rfl rfl ?_|refine zH rfl rfl ?_|refine yA rfl rfl rfl ?_|refine yJ rfl rfl rfl ?_|refine JO_eqI rfl rfl rfl ?_)|refine yU rfl rfl rfl ?_))
      exact ⟨zI rfl (zI rfl (sub_bool rfl (by first|exact LPt (by simp [zQ];omega)|exact LPu (by simp [zQ];omega) (by assumption)|exact LPx (by assumption)|exact LPf (by simp [zQ];omega)|exact L0 (by simp [zQ]) (by simp [zQ])|exact dec_bP (by first|(simp [zQ,inP,btw];done)|(simp [zQ,inP,btw];omega)|(simp_all [zQ,inP,btw];done)|(simp_all [zQ,inP,btw];omega))|exact bP_same (by first|(simp [zQ,inP,btw];done)|(simp [zQ,inP,btw];omega)|(simp_all [zQ,inP,btw];done)|(simp_all [zQ,inP,btw];omega))|exact bP_t (by first|(simp [zQ,inP,btw];done)|(simp [zQ,inP,btw];omega)|(simp_all [zQ,inP,btw];done)|(simp_all [zQ,inP,btw];omega))|exact bP_f (by first|(simp [zQ,inP,btw];done)|(simp [zQ,inP,btw];omega)|(simp_all [zQ,inP,btw];done)|(simp_all [zQ,inP,btw];omega))) (zM _))),rfl,Ent.sel⟩
  dsimp only [thn]
  refine zG ?_
  repeat (first|refine vO ?_|refine tA rfl ?_|refine JG_n rfl rfl rfl (by kernel_rfl) (by kernel_rfl) rfl Ent.sel (by first|exact vT rfl|exact xL rfl|exact xP rfl|exact JQ_eqI rfl rfl|exact JQ_len rfl) ?_)
  dsimp only [thn]
  refine zG ?_
  refine J_cut [(1,ptr n1),(2,.int .i64 0),(3,.bool (bP ((zQ n).1.whole = true ∨ a = 0))),(4,.bool (bP (inP b (zQ n).1.b))),(5,.bool (bP (inP c (zQ n).1.c ∧ ((zQ n).1.unlike = false ∨ (zQ n).1.c = -1 ∨ b ≠ c)))),(6,.bool (bP (inP d (zQ n).1.d))),(7,.bool (bP (((zQ n).1.least ≤ l.length ∧ l.length ≤ (zQ n).1.most) ∧ okL (zQ n).1.unlike (zQ n).1.l l)))] [pt n1 (.cells #[.int .i64 ((n : Nat) : Int),.int .i64 a,.int .i64 b,.int .i64 c,.int .i64 d,.slice p l.length cap] 52 (0,0)),Vw 1 (.slice p l.length cap) l.length (ints l)] ?_ ?_
  · match n,hn24 with
    | 0,_ => ?_
    | 1,_ => ?_
    | 2,_ => ?_
    | 3,_ => ?_
    | 4,_ => ?_
    | 5,_ => ?_
    | 6,_ => ?_
    | 7,_ => ?_
    | 8,_ => ?_
    | 9,_ => ?_
    | 10,_ => ?_
    | 11,_ => ?_
    | 12,_ => ?_
    | 13,_ => ?_
    | 14,_ => ?_
    | 15,_ => ?_
    | 16,_ => ?_
    | 17,_ => ?_
    | 18,_ => ?_
    | 19,_ => ?_
    | 20,_ => ?_
    | 21,_ => ?_
    | 22,_ => ?_
    | 23,_ => ?_
    | 24,_ => ?_
    | k + 25,h => omega
    all_goals
      repeat' (first|(first|refine zB ?_|refine zE ?_|refine zG ?_|refine zK ?_|refine zP ?_|refine zL rfl ?_|refine zJ rfl ?_)|(first|((first|refine zA rfl ?_|refine zZ rfl rfl ?_);first|refine JOq (yT rfl rfl (by omega)) rfl ?_|refine JOq (yL rfl rfl (by omega)) rfl ?_|refine zD rfl rfl ?_|refine zC rfl rfl ?_|refine yF rfl rfl ?_|refine zF rfl rfl ?_|refine zH rfl rfl ?_|refine yA rfl rfl rfl ?_|refine yJ rfl rfl rfl ?_|refine JO_leq rfl rfl rfl ?_|refine JO_geq rfl rfl rfl ?_|refine JO_eqI rfl rfl rfl ?_|refine JO_neI rfl rfl rfl ?_|refine zR rfl (hin _ _) rfl ?_|refine zR rfl (hall _) rfl ?_|refine zR rfl (hun) rfl ?_)|refine yU rfl rfl rfl ?_)|(first|refine JL_guardP rfl rfl rfl (fun h => ?_) (fun h => ?_))|(first|refine J_condP rfl (fun h => ?_) (fun h => ?_)))
      all_goals exact ⟨zI rfl (zI rfl (sub_bool rfl (by rfl) (sub_bool rfl (by first|exact LPt (by simp [zQ];omega)|exact LPu (by simp [zQ];omega) (by assumption)|exact LPx (by assumption)|exact LPf (by simp [zQ];omega)|exact L0 (by simp [zQ]) (by simp [zQ])|exact dec_bP (by first|(simp [zQ,inP,btw];done)|(simp [zQ,inP,btw];omega)|(simp_all [zQ,inP,btw];done)|(simp_all [zQ,inP,btw];omega))|exact bP_same (by first|(simp [zQ,inP,btw];done)|(simp [zQ,inP,btw];omega)|(simp_all [zQ,inP,btw];done)|(simp_all [zQ,inP,btw];omega))|exact bP_t (by first|(simp [zQ,inP,btw];done)|(simp [zQ,inP,btw];omega)|(simp_all [zQ,inP,btw];done)|(simp_all [zQ,inP,btw];omega))|exact bP_f (by first|(simp [zQ,inP,btw];done)|(simp [zQ,inP,btw];omega)|(simp_all [zQ,inP,btw];done)|(simp_all [zQ,inP,btw];omega))) (sub_bool rfl (by first|exact LPt (by simp [zQ];omega)|exact LPu (by simp [zQ];omega) (by assumption)|exact LPx (by assumption)|exact LPf (by simp [zQ];omega)|exact L0 (by simp [zQ]) (by simp [zQ])|exact dec_bP (by first|(simp [zQ,inP,btw];done)|(simp [zQ,inP,btw];omega)|(simp_all [zQ,inP,btw];done)|(simp_all [zQ,inP,btw];omega))|exact bP_same (by first|(simp [zQ,inP,btw];done)|(simp [zQ,inP,btw];omega)|(simp_all [zQ,inP,btw];done)|(simp_all [zQ,inP,btw];omega))|exact bP_t (by first|(simp [zQ,inP,btw];done)|(simp [zQ,inP,btw];omega)|(simp_all [zQ,inP,btw];done)|(simp_all [zQ,inP,btw];omega))|exact bP_f (by first|(simp [zQ,inP,btw];done)|(simp [zQ,inP,btw];omega)|(simp_all [zQ,inP,btw];done)|(simp_all [zQ,inP,btw];omega))) (sub_bool rfl (by first|exact LPt (by simp [zQ];omega)|exact LPu (by simp [zQ];omega) (by assumption)|exact LPx (by assumption)|exact LPf (by simp [zQ];omega)|exact L0 (by simp [zQ]) (by simp [zQ])|exact dec_bP (by first|(simp [zQ,inP,btw];done)|(simp [zQ,inP,btw];omega)|(simp_all [zQ,inP,btw];done)|(simp_all [zQ,inP,btw];omega))|exact bP_same (by first|(simp [zQ,inP,btw];done)|(simp [zQ,inP,btw];omega)|(simp_all [zQ,inP,btw];done)|(simp_all [zQ,inP,btw];omega))|exact bP_t (by first|(simp [zQ,inP,btw];done)|(simp [zQ,inP,btw];omega)|(simp_all [zQ,inP,btw];done)|(simp_all [zQ,inP,btw];omega))|exact bP_f (by first|(simp [zQ,inP,btw];done)|(simp [zQ,inP,btw];omega)|(simp_all [zQ,inP,btw];done)|(simp_all [zQ,inP,btw];omega))) (sub_bool rfl (by first|exact LPt (by simp [zQ];omega)|exact LPu (by simp [zQ];omega) (by assumption)|exact LPx (by assumption)|exact LPf (by simp [zQ];omega)|exact L0 (by simp [zQ]) (by simp [zQ])|exact dec_bP (by first|(simp [zQ,inP,btw];done)|(simp [zQ,inP,btw];omega)|(simp_all [zQ,inP,btw];done)|(simp_all [zQ,inP,btw];omega))|exact bP_same (by first|(simp [zQ,inP,btw];done)|(simp [zQ,inP,btw];omega)|(simp_all [zQ,inP,btw];done)|(simp_all [zQ,inP,btw];omega))|exact bP_t (by first|(simp [zQ,inP,btw];done)|(simp [zQ,inP,btw];omega)|(simp_all [zQ,inP,btw];done)|(simp_all [zQ,inP,btw];omega))|exact bP_f (by first|(simp [zQ,inP,btw];done)|(simp [zQ,inP,btw];omega)|(simp_all [zQ,inP,btw];done)|(simp_all [zQ,inP,btw];omega))) (zM _))))))),rfl,Ent.sel⟩
  dsimp only [thn]
  have hF : FP ↔ ((zQ n).1.whole = true ∨ a = 0) ∧ (inP b (zQ n).1.b) ∧ (inP c (zQ n).1.c ∧ ((zQ n).1.unlike = false ∨ (zQ n).1.c = -1 ∨ b ≠ c)) ∧ (inP d (zQ n).1.d) ∧ (((zQ n).1.least ≤ l.length ∧ l.length ≤ (zQ n).1.most) ∧ okL (zQ n).1.unlike (zQ n).1.l l) := by
    rw [hfit,hhead,hpair]
    exact ⟨fun ⟨⟨h1,h2⟩,⟨h3,h4,h5⟩,h6,h7⟩ => ⟨h1,h3,⟨h4,h6⟩,h5,h2,h7⟩,fun ⟨h1,h3,⟨h4,h6⟩,h5,h2,h7⟩ => ⟨⟨h1,h2⟩,⟨h3,h4,h5⟩,h6,h7⟩⟩
  clear hfit hhead hpair
  generalize ((zQ n).1.whole = true ∨ a = 0) = PA at *
  generalize (inP b (zQ n).1.b) = PB at *
  generalize (inP c (zQ n).1.c ∧ ((zQ n).1.unlike = false ∨ (zQ n).1.c = -1 ∨ b ≠ c)) = PC at *
  generalize (inP d (zQ n).1.d) = PD at *
  generalize (((zQ n).1.least ≤ l.length ∧ l.length ≤ (zQ n).1.most) ∧ okL (zQ n).1.unlike (zQ n).1.l l) = PL at *
  by_cases hA : PA
  · rw [show bP PA = true from (bP_t hA).symm]
    by_cases hB : PB
    · rw [show bP PB = true from (bP_t hB).symm]
      by_cases hC : PC
      · rw [show bP PC = true from (bP_t hC).symm]
        by_cases hD : PD
        · rw [show bP PD = true from (bP_t hD).symm]
          by_cases hL : PL
          · rw [show bP PL = true from (bP_t hL).symm]
            obtain rfl : K = 0 := hok (hF.2 ⟨hA,hB,hC,hD,hL⟩)
            repeat (first|(first|refine zB ?_|refine zE ?_|refine zG ?_|refine zP ?_|refine zJ rfl ?_|refine zV ?_)|(first|((first|refine zA rfl ?_|refine zZ rfl rfl ?_);first|refine zD rfl rfl ?_|refine zC rfl rfl ?_|refine yJ rfl rfl rfl ?_|refine xD rfl rfl ?_)))
            exact zY rfl rfl .nil
          · rw [show bP PL = false from (bP_f hL).symm]
            obtain rfl : K = 2 := hbad (fun h => hL (hF.1 h).2.2.2.2)
            repeat (first|(first|refine zB ?_|refine zE ?_|refine zG ?_|refine zL rfl ?_|refine zV ?_)|(first|((first|refine zA rfl ?_|refine zZ rfl rfl ?_);first|refine zD rfl rfl ?_|refine zC rfl rfl ?_|refine yJ rfl rfl rfl ?_|refine xD rfl rfl ?_)))
            exact zY rfl rfl .nil
        · rw [show bP PD = false from (bP_f hD).symm]
          obtain rfl : K = 2 := hbad (fun h => hD (hF.1 h).2.2.2.1)
          repeat (first|(first|refine zB ?_|refine zE ?_|refine zG ?_|refine zL rfl ?_|refine zV ?_)|(first|((first|refine zA rfl ?_|refine zZ rfl rfl ?_);first|refine zD rfl rfl ?_|refine zC rfl rfl ?_|refine yA rfl rfl rfl ?_|refine yJ rfl rfl rfl ?_|refine xD rfl rfl ?_)|refine yU rfl rfl rfl ?_))
          exact zY rfl rfl .nil
      · rw [show bP PC = false from (bP_f hC).symm]
        obtain rfl : K = 2 := hbad (fun h => hC (hF.1 h).2.2.1)
        repeat (first|(first|refine zB ?_|refine zE ?_|refine zG ?_|refine zL rfl ?_|refine zV ?_)|(first|((first|refine zA rfl ?_|refine zZ rfl rfl ?_);first|refine zD rfl rfl ?_|refine zC rfl rfl ?_|refine yA rfl rfl rfl ?_|refine yJ rfl rfl rfl ?_|refine xD rfl rfl ?_)|refine yU rfl rfl rfl ?_))
        exact zY rfl rfl .nil
    · rw [show bP PB = false from (bP_f hB).symm]
      obtain rfl : K = 2 := hbad (fun h => hB (hF.1 h).2.1)
      repeat (first|(first|refine zB ?_|refine zE ?_|refine zG ?_|refine zL rfl ?_|refine zV ?_)|(first|((first|refine zA rfl ?_|refine zZ rfl rfl ?_);first|refine zD rfl rfl ?_|refine zC rfl rfl ?_|refine yA rfl rfl rfl ?_|refine yJ rfl rfl rfl ?_|refine xD rfl rfl ?_)|refine yU rfl rfl rfl ?_))
      exact zY rfl rfl .nil
  · rw [show bP PA = false from (bP_f hA).symm]
    obtain rfl : K = 2 := hbad (fun h => hA (hF.1 h).1)
    repeat (first|(first|refine zB ?_|refine zE ?_|refine zG ?_|refine zL rfl ?_|refine zV ?_)|(first|((first|refine zA rfl ?_);first|refine zD rfl rfl ?_|refine zC rfl rfl ?_|refine yA rfl rfl rfl ?_|refine xD rfl rfl ?_)|refine yU rfl rfl rfl ?_))
    exact zY rfl rfl .nil
end Go.Proofs.YtickblndgihoeaaGreatDoor
