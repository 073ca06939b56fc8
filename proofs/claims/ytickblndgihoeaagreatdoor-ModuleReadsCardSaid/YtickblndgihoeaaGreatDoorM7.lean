/- Layer 9: Check; what communicates, what ends. -/
import Derived.Test.YtickblndgihoeaaGreatDoorM6
import Derived.Test.YtickblndgihoeaaGreatDoorM5
set_option linter.unusedSimpArgs false
namespace Go.Proofs.YtickblndgihoeaaGreatDoor
open Go Go.Sp
noncomputable def chkA (x : Ins) : Int := if x.op < 0 ∨ 24 < x.op then 11 else if bP (fitsP (zQ x.op.toNat).1 x) = true then 0 else 2
theorem chk_out {x : Ins} (h : x.op < 0 ∨ 24 < x.op) : chkA x = 11 := by unfold chkA;rw [if_pos h]
theorem chk_ok {x : Ins} {n : Nat} (hn : x.op = (n : Int)) (h : n ≤ 24) (hf : fitsP (zQ n).1 x) : chkA x = 0 := by
  unfold chkA
  rw [if_neg (by omega),hn,Int.toNat_natCast,if_pos (bP_t hf).symm]
theorem chk_bad {x : Ins} {n : Nat} (hn : x.op = (n : Int)) (h : n ≤ 24) (hf : ¬ fitsP (zQ n).1 x) : chkA x = 2 := by
  unfold chkA
  rw [if_neg (by omega),hn,Int.toNat_natCast,← bP_f hf]
  rfl
attribute [local irreducible] callFunc Go.method J JL JO JR JR1 JRl Ct JG JM JM1 JW JW1 JQ JQ0 JS CtD xB fitsP chkA zQ ints tK
set_option maxHeartbeats 4000000 in
theorem check_c (x : Ins) (p : Option Addr) (cap : Nat) (hc : x.l.length ≤ cap) (hm : x.l.length ≤ 1000000) :
    Ct Tryz.prog 152 #[.agg (insC x (.slice p x.l.length cap)).toArray] [Vw 1 (.slice p x.l.length cap) x.l.length (ints x.l)] (wF (.int .i64 (chkA x)) []) := by
  refine yE (vs := [_]) Tryz.func152 rfl Tryz.ntmps152 (by simp) ?_
  unfold insC
  by_cases h1 : x.op < 0
  · rw [chk_out (.inl h1)]
    repeat (first|(first|refine zB ?_|refine zE ?_|refine zG ?_|refine zL rfl ?_|refine zV ?_)|(first|((first|refine zA rfl ?_);first|refine JOq (yH rfl rfl (by omega)) rfl ?_|refine zD rfl rfl ?_|refine zC rfl rfl ?_|refine zF rfl rfl ?_|refine zH rfl rfl ?_|refine yA rfl rfl rfl ?_|refine yN rfl rfl (fun r => ?_))|refine yU rfl rfl rfl ?_))
    exact zY rfl rfl .nil
  · by_cases h2 : 24 < x.op
    · rw [chk_out (.inr h2)]
      repeat (first|(first|refine zB ?_|refine zE ?_|refine zG ?_|refine zL rfl ?_|refine zV ?_)|(first|((first|refine zA rfl ?_|refine zZ rfl rfl ?_);first|refine JOq (yS rfl rfl (by omega)) rfl ?_|refine JOq (JQ_gtrT rfl rfl (by omega)) rfl ?_|refine zD rfl rfl ?_|refine zC rfl rfl ?_|refine zF rfl rfl ?_|refine zH rfl rfl ?_|refine yJ rfl rfl rfl ?_|refine yN rfl rfl (fun r => ?_))))
      exact zY rfl rfl .nil
    · obtain ⟨n,hn⟩ := Int.eq_ofNat_of_zero_le (show 0 ≤ x.op by omega)
      have hr := rows_c n (by omega)
      rw [← hn] at hr
      have hf := fits_c (zQ n).1 x p cap hc hm
      unfold insC at hf
      by_cases hfit : fitsP (zQ n).1 x
      · rw [chk_ok hn (by omega) hfit]
        rw [show bP (fitsP (zQ n).1 x) = true from (bP_t hfit).symm] at hf
        unfold tK at hr hf
        repeat (first|(first|refine zB ?_|refine zE ?_|refine zG ?_|refine zP ?_|refine zJ rfl ?_|refine zV ?_)|(first|((first|refine zA rfl ?_|refine zZ rfl rfl ?_);first|refine JOq (yS rfl rfl (by omega)) rfl ?_|refine JOq (JQ_gtrF rfl rfl (by omega)) rfl ?_|refine zD rfl rfl ?_|refine zC rfl rfl ?_|refine zF rfl rfl ?_|refine zH rfl rfl ?_|refine zU rfl (by rfl) rfl ?_|refine yJ rfl rfl rfl ?_|refine xD rfl rfl ?_|refine zT rfl rfl rfl ?_|refine yN rfl rfl (fun r => ?_)|refine zS rfl (fun r => ?_)|refine zO rfl rfl (by rfl) (by rfl) (by first | decide | simp [Value.oneCell']) rfl ?_|refine zR rfl (hr) rfl ?_|refine zR rfl (hf) rfl ?_)))
        exact zY rfl rfl .nil
      · rw [chk_bad hn (by omega) hfit]
        rw [show bP (fitsP (zQ n).1 x) = false from (bP_f hfit).symm] at hf
        unfold tK at hr hf
        repeat (first|(first|refine zB ?_|refine zE ?_|refine zG ?_|refine zP ?_|refine zL rfl ?_|refine zJ rfl ?_|refine zV ?_)|(first|((first|refine zA rfl ?_|refine zZ rfl rfl ?_);first|refine JOq (yS rfl rfl (by omega)) rfl ?_|refine JOq (JQ_gtrF rfl rfl (by omega)) rfl ?_|refine zD rfl rfl ?_|refine zC rfl rfl ?_|refine zF rfl rfl ?_|refine zH rfl rfl ?_|refine zU rfl (by rfl) rfl ?_|refine yJ rfl rfl rfl ?_|refine xD rfl rfl ?_|refine zT rfl rfl rfl ?_|refine yN rfl rfl (fun r => ?_)|refine zS rfl (fun r => ?_)|refine zO rfl rfl (by rfl) (by rfl) (by first | decide | simp [Value.oneCell']) rfl ?_|refine zR rfl (hr) rfl ?_|refine zR rfl (hf) rfl ?_)))
        exact zY rfl rfl .nil
noncomputable def commB (op : Int) : Bool := bP (14 ≤ op ∧ op ≤ 19)
noncomputable def endsO (op : Int) : Bool := bP (op = 11 ∨ op = 19 ∨ op = 24)
end Go.Proofs.YtickblndgihoeaaGreatDoor

/- Layer 9: an instruction is laid. -/
namespace Go.Proofs.YtickblndgihoeaaGreatDoor
open Go Go.Sp
def vJ (n : Int) : List UInt8 := wY n.toNat
def tF (m n : Int) : List UInt8 := if m = -1 then [] else vJ n
def tJ (r : Row × Bool) (x : Ins) : List UInt8 :=
  UInt8.ofNat x.op.toNat :: (if r.2 = true then [] else
    (if r.1.whole = true then wY (foldZ x.a) else []) ++ (tF r.1.b x.b ++ (tF r.1.c x.c ++ (tF r.1.d x.d ++ ((if (r.1.least : Int) < (r.1.most : Int) then wY x.l.length else []) ++ x.l.flatMap vJ)))))
theorem row_bounds {n : Nat} (h : n ≤ 24) : (zQ n).1.b ≤ 1000 ∧ (zQ n).1.c ≤ 1000 ∧ (zQ n).1.d ≤ 1000 ∧ (zQ n).1.l ≤ 1000 ∧ (zQ n).1.most ≤ 8 := by
  match n,h with
  | 0,_ => exact ⟨by decide,by decide,by decide,by decide,by decide⟩
  | 1,_ => exact ⟨by decide,by decide,by decide,by decide,by decide⟩
  | 2,_ => exact ⟨by decide,by decide,by decide,by decide,by decide⟩
  | 3,_ => exact ⟨by decide,by decide,by decide,by decide,by decide⟩
  | 4,_ => exact ⟨by decide,by decide,by decide,by decide,by decide⟩
  | 5,_ => exact ⟨by decide,by decide,by decide,by decide,by decide⟩
  | 6,_ => exact ⟨by decide,by decide,by decide,by decide,by decide⟩
  | 7,_ => exact ⟨by decide,by decide,by decide,by decide,by decide⟩
  | 8,_ => exact ⟨by decide,by decide,by decide,by decide,by decide⟩
  | 9,_ => exact ⟨by decide,by decide,by decide,by decide,by decide⟩
  | 10,_ => exact ⟨by decide,by decide,by decide,by decide,by decide⟩
  | 11,_ => exact ⟨by decide,by decide,by decide,by decide,by decide⟩
  | 12,_ => exact ⟨by decide,by decide,by decide,by decide,by decide⟩
  | 13,_ => exact ⟨by decide,by decide,by decide,by decide,by decide⟩
  | 14,_ => exact ⟨by decide,by decide,by decide,by decide,by decide⟩
  | 15,_ => exact ⟨by decide,by decide,by decide,by decide,by decide⟩
  | 16,_ => exact ⟨by decide,by decide,by decide,by decide,by decide⟩
  | 17,_ => exact ⟨by decide,by decide,by decide,by decide,by decide⟩
  | 18,_ => exact ⟨by decide,by decide,by decide,by decide,by decide⟩
  | 19,_ => exact ⟨by decide,by decide,by decide,by decide,by decide⟩
  | 20,_ => exact ⟨by decide,by decide,by decide,by decide,by decide⟩
  | 21,_ => exact ⟨by decide,by decide,by decide,by decide,by decide⟩
  | 22,_ => exact ⟨by decide,by decide,by decide,by decide,by decide⟩
  | 23,_ => exact ⟨by decide,by decide,by decide,by decide,by decide⟩
  | 24,_ => exact ⟨by decide,by decide,by decide,by decide,by decide⟩
  | k + 25,h => omega
theorem in_bound {n m : Int} (h : inP n m) (hm : m ≤ 1000) : 0 ≤ n ∧ n ≤ 1000 := by unfold inP at h;omega
theorem flat_len {l : List Int} (h : ∀ n ∈ l,0 ≤ n ∧ n ≤ 1000) : (l.flatMap vJ).length ≤ l.length * 10 := by
  induction l with
  | nil => simp
  | cons n l ih =>
    have h1 := vM (n := n.toNat) (by have := h n (by simp);omega)
    have h2 := ih (fun m hm => h m (by simp [hm]))
    simp only [List.flatMap_cons,List.length_append,List.length_cons,vJ] at *
    omega
theorem opt_len {m n : Int} (h : 0 ≤ n ∧ n ≤ 1000) : (tF m n).length ≤ 10 := by
  unfold tF
  split
  · simp
  · exact vM (by omega)
theorem okL_mem {un : Bool} {rl : Int} {l : List Int} (h : okL un rl l) (hr : rl ≤ 1000) : ∀ n ∈ l,0 ≤ n ∧ n ≤ 1000 := fun n hn => by
  obtain ⟨i,hi,rfl⟩ := List.mem_iff_getElem.1 hn
  have := (h i hi _ (List.getElem?_eq_getElem hi)).2
  omega
theorem optL_none {m n : Int} (h : m = -1) : tF m n = [] := by unfold tF;rw [if_pos h]
theorem optL_some {m : Int} {n : Nat} (h : ¬ m = -1) : tF m (n : Int) = wY n := by unfold tF;rw [if_neg h];rfl
theorem endM_tV {L0 : List HP} {P : Program} {N : Nat} {E : Env} {L : List HP} {r : Nat} {M : List HP} [h : Tk (pt r (.deferred (some []))) L M] {fn : Func} {t : Nat} {v : Value} (hr : fn.results = #[.tmp t]) (hv : Env.get E t = some v) (he : Ent M L0) :
    bodyQM P N fn (wF v L0) .ret E [collected r] L := ⟨r,M,rfl,h.h,_,res_one hr hv,_,he,rfl,rfl⟩
attribute [local irreducible] callFunc Go.method J JL JO JR JR1 JRl Ct JG JM JM1 JW JW1 JQ JQ0 JS CtD xB fitsP chkA zQ ints tK WrB stage vJ tF by8
theorem put_bad (w : Nat) (pre : List UInt8) (x : Ins) (p : Option Addr) (cap : Nat) (hc : x.l.length ≤ cap) (hm : x.l.length ≤ 1000000) (h0 : chkA x ≠ 0) :
    Ct Tryz.prog 117 #[ptr w,.agg (insC x (.slice p x.l.length cap)).toArray] [Vw 1 (.slice p x.l.length cap) x.l.length (ints x.l)] (wF (.int .i64 (chkA x)) []) := by
  have hk := check_c x p cap hc hm
  generalize chkA x = k at *
  unfold insC at hk ⊢
  refine yE (vs := [_,_]) Tryz.func117 rfl Tryz.ntmps117 (by simp) ?_
  repeat (first|(first|refine zB ?_|refine zE ?_|refine zG ?_|refine zL rfl ?_|refine zV ?_)|(first|((first|refine zA rfl ?_);first|refine JOq (vS rfl rfl (by omega)) rfl ?_|refine zD rfl rfl ?_|refine zC rfl rfl ?_|refine zU rfl (by rfl) rfl ?_|refine yN rfl rfl (fun r => ?_)|refine JO_box1 rfl rfl rfl (fun r => ?_)|refine zR rfl (hk) rfl ?_)))
  exact zY rfl rfl .nil
set_option maxRecDepth 8000 in
set_option maxHeartbeats 8000000 in
theorem put_ok (w : Nat) (pre : List UInt8) (x : Ins) (p : Option Addr) (cap : Nat) (hc : x.l.length ≤ cap) (hm : x.l.length ≤ 1000) (hpre : pre.length ≤ 900000) (ha : -9223372036854775808 ≤ x.a ∧ x.a ≤ 9223372036854775807) {n : Nat} (hn : x.op = (n : Int)) (hn24 : n ≤ 24) (hfit : fitsP (zQ n).1 x) :
    Ct Tryz.prog 117 #[ptr w,.agg (insC x (.slice p x.l.length cap)).toArray] [Vw 1 (.slice p x.l.length cap) x.l.length (ints x.l),WrB w pre] (wF (.int .i64 0) [WrB w (pre ++ tJ (zQ n) x)]) := by
  have hk := check_c x p cap hc (by omega)
  rw [chk_ok hn hn24 hfit] at hk
  have hr := rows_c n hn24
  obtain ⟨b1,b2,b3,b4,b5⟩ := row_bounds hn24
  obtain ⟨f1,⟨f2,f3,f4⟩,f5,f6⟩ : headP (zQ n).1 x ∧ (inP x.b (zQ n).1.b ∧ inP x.c (zQ n).1.c ∧ inP x.d (zQ n).1.d) ∧ pairP (zQ n).1 x ∧ okL (zQ n).1.unlike (zQ n).1.l x.l := by unfold fitsP at hfit;exact hfit
  have hb := in_bound f2 b1
  have hcc := in_bound f3 b2
  have hd := in_bound f4 b3
  have hmem := okL_mem f6 b4
  clear f1 f2 f3 f4 f5 f6 hfit
  have hby : tJ (zQ n) x = UInt8.ofNat x.op.toNat :: (if (zQ n).2 = true then [] else (if (zQ n).1.whole = true then wY (foldZ x.a) else []) ++ (tF (zQ n).1.b x.b ++ (tF (zQ n).1.c x.c ++ (tF (zQ n).1.d x.d ++ ((if ((zQ n).1.least : Int) < ((zQ n).1.most : Int) then wY x.l.length else []) ++ x.l.flatMap vJ))))) := rfl
  generalize tJ (zQ n) x = BY at *
  have hcnt := counts_c (zQ n).1
  have hsml := small_c (zQ n).1
  have hsm1 := fun c1 c2 n3 => small1_c c1 c2 n3 (zQ n).1
  generalize zQ n = R at *
  rcases R with ⟨⟨wh,rb,rc,rd,rl,least,most,un⟩,pl⟩
  rcases x with ⟨op,a,b,c,d,l⟩
  dsimp only at *
  subst hn
  unfold tK at hr hcnt hsml
  unfold insC at hk ⊢
  dsimp only at *
  have hop : (UInt8.ofNat n).toNat = n := toNat_of (by omega)
  have hbyte := wbyte_B w pre (UInt8.ofNat n) (by omega)
  rw [hop] at hbyte
  refine fn_retM (vs := [_,_]) Tryz.func117 rfl Tryz.ntmps117 (by simp) ?_
  repeat (first|(first|refine zB ?_|refine zE ?_|refine zG ?_)|(first|((first|refine zA rfl ?_);first|refine zC rfl rfl ?_|refine zU rfl (by rfl) rfl ?_|refine yN rfl rfl (fun r => ?_)|refine JO_box1 rfl rfl rfl (fun r => ?_))))
  rename_i n2
  revert r
  intro n3
  repeat (first|(first|refine zB ?_|refine zE ?_|refine zG ?_|refine zP ?_|refine zJ rfl ?_)|(first|((first|refine zA rfl ?_);first|refine JOq (vW rfl rfl (by omega)) rfl ?_|refine JOq (yX (a := n) rfl (wrap_u8 (by omega))) rfl ?_|refine zD rfl rfl ?_|refine zC rfl rfl ?_|refine zF rfl rfl ?_|refine zH rfl rfl ?_|refine zT rfl rfl rfl ?_|refine zS rfl (fun r => ?_)|refine zO rfl rfl (by rfl) (by rfl) (by first | decide | simp [Value.oneCell']) rfl ?_|refine zR rfl (hk) rfl ?_|refine zR rfl (hr) rfl ?_)))
  revert r
  intro n6
  repeat (first|(first|refine zB ?_|refine zE ?_|refine zG ?_)|(first|((first|refine zA rfl ?_);first|refine zD rfl rfl ?_|refine zN rfl (hbyte) rfl ?_)))
  rw [Int.toNat_natCast] at hby
  cases pl with
  | true =>
    repeat (first|(first|refine zB ?_|refine zE ?_|refine zG ?_|refine zL rfl ?_|refine zV ?_)|(first|((first|refine zA rfl ?_);first|refine zC rfl rfl ?_)))
    rw [hby,if_pos rfl]
    exact ⟨_,res_one rfl rfl,_,Ent.sel,rfl,rfl⟩
  | false =>
    rw [if_neg (by decide)] at hby
    repeat (first|(first|refine zB ?_|refine zE ?_|refine zG ?_|refine zP ?_|refine zJ rfl ?_)|(first|((first|refine zA rfl ?_);first|refine zF rfl rfl ?_|refine zH rfl rfl ?_)))
    refine J_cut [(2,ptr n2),(3,ptr n3),(6,ptr n6)] [pt n2 (.cells #[ptr w] 93 (0,0)),pt n3 (.cells #[.int .i64 ((n : Nat) : Int),.int .i64 a,.int .i64 b,.int .i64 c,.int .i64 d,.slice p l.length cap] 52 (0,0)),pt n6 (.cells #[.bool wh,.int .i64 rb,.int .i64 rc,.int .i64 rd,.int .i64 rl,.int .i64 (least : Int),.int .i64 (most : Int),.bool un] 252 (0,0)),Vw 1 (.slice p l.length cap) l.length (ints l),WrB w ((pre ++ [UInt8.ofNat n]) ++ (if wh = true then wY (foldZ a) else []))] ?_ ?_
    · cases wh with
      | true =>
        have hs := puts_c w a (pre ++ [UInt8.ofNat n]) ha (by simp only [List.length_append,List.length_singleton];omega)
        repeat (first|(first|refine zB ?_|refine zE ?_|refine zL rfl ?_)|(first|((first|refine zA rfl ?_);first|refine yK rfl hs rfl (fun _ _ => ?_)|refine zF rfl rfl ?_|refine zH rfl rfl ?_)))
        rw [if_pos rfl]
        exact ⟨by (repeat (first|exact zM _|refine zI rfl ?_)),rfl,Ent.sel⟩
      | false =>
        repeat (first|(first|refine zP ?_|refine zJ rfl ?_)|(first|((first|refine zA rfl ?_);first|refine zD rfl rfl ?_)))
        rw [if_neg (by decide),List.append_nil]
        exact ⟨by (repeat (first|exact zM _|refine zI rfl ?_)),rfl,Ent.sel⟩
    dsimp only [thn]
    have hby2 : pre ++ BY = ((pre ++ [UInt8.ofNat n]) ++ (if wh = true then wY (foldZ a) else [])) ++ (tF rb b ++ (tF rc c ++ (tF rd d ++ ((if (least : Int) < (most : Int) then wY l.length else []) ++ l.flatMap vJ)))) := by rw [hby];simp
    have hP : ((pre ++ [UInt8.ofNat n]) ++ (if wh = true then wY (foldZ a) else [])).length ≤ 900020 := by
      have := vM (fold_lt ha)
      simp only [List.length_append,List.length_singleton]
      split
      · omega
      · simp;omega
    have ol1 := opt_len (m := rb) hb
    have ol2 := opt_len (m := rc) hcc
    have ol3 := opt_len (m := rd) hd
    generalize ((pre ++ [UInt8.ofNat n]) ++ (if wh = true then wY (foldZ a) else [])) = P0 at *
    have hsml' := hsml n3
    repeat (first|(first|refine zB ?_|refine zE ?_|refine zG ?_|refine zK ?_)|(first|((first|refine zA rfl ?_);first|refine yK rfl hsml' rfl (fun cx _ => ?_)|refine zU rfl (by rfl) rfl ?_)))
    obtain ⟨c1,c2⟩ := cx
    dsimp only
    refine J_range (σ := Unit) (τ := Empty) (fun i _ => stage i [pt n2 (.cells #[ptr w] 93 (0,0)),pt n3 (.cells #[.int .i64 ((n : Nat) : Int),.int .i64 a,.int .i64 b,.int .i64 c,.int .i64 d,.slice p l.length cap] 52 (0,0)),pt n6 (.cells #[.bool wh,.int .i64 rb,.int .i64 rc,.int .i64 rd,.int .i64 rl,.int .i64 (least : Int),.int .i64 (most : Int),.bool un] 252 (0,0)),Vw 1 (.slice p l.length cap) l.length (ints l),WrB w P0] [pt n2 (.cells #[ptr w] 93 (0,0)),pt n3 (.cells #[.int .i64 ((n : Nat) : Int),.int .i64 a,.int .i64 b,.int .i64 c,.int .i64 d,.slice p l.length cap] 52 (0,0)),pt n6 (.cells #[.bool wh,.int .i64 rb,.int .i64 rc,.int .i64 rd,.int .i64 rl,.int .i64 (least : Int),.int .i64 (most : Int),.bool un] 252 (0,0)),Vw 1 (.slice p l.length cap) l.length (ints l),WrB w (P0 ++ tF rb b)] [pt n2 (.cells #[ptr w] 93 (0,0)),pt n3 (.cells #[.int .i64 ((n : Nat) : Int),.int .i64 a,.int .i64 b,.int .i64 c,.int .i64 d,.slice p l.length cap] 52 (0,0)),pt n6 (.cells #[.bool wh,.int .i64 rb,.int .i64 rc,.int .i64 rd,.int .i64 rl,.int .i64 (least : Int),.int .i64 (most : Int),.bool un] 252 (0,0)),Vw 1 (.slice p l.length cap) l.length (ints l),WrB w ((P0 ++ tF rb b) ++ tF rc c)] [pt n2 (.cells #[ptr w] 93 (0,0)),pt n3 (.cells #[.int .i64 ((n : Nat) : Int),.int .i64 a,.int .i64 b,.int .i64 c,.int .i64 d,.slice p l.length cap] 52 (0,0)),pt n6 (.cells #[.bool wh,.int .i64 rb,.int .i64 rc,.int .i64 rd,.int .i64 rl,.int .i64 (least : Int),.int .i64 (most : Int),.bool un] 252 (0,0)),Vw 1 (.slice p l.length cap) l.length (ints l),WrB w (((P0 ++ tF rb b) ++ tF rc c) ++ tF rd d)]) (fun e => e.elim) (fun e => e.elim) rfl (hsm1 c1 c2 n3) ?_ ?_ () ?_ ?_ ?_ ?_
    · intro q hq
      simp only [smallV,List.mem_cons,List.not_mem_nil,or_false] at hq
      rcases hq with rfl | rfl | rfl <;> rfl
    · decide
    · rw [stage_0]
      exact Ent.sel (K := [pt n2 (.cells #[ptr w] 93 (0,0)),pt n3 (.cells #[.int .i64 ((n : Nat) : Int),.int .i64 a,.int .i64 b,.int .i64 c,.int .i64 d,.slice p l.length cap] 52 (0,0)),pt n6 (.cells #[.bool wh,.int .i64 rb,.int .i64 rc,.int .i64 rd,.int .i64 rl,.int .i64 (least : Int),.int .i64 (most : Int),.bool un] 252 (0,0)),Vw 1 (.slice p l.length cap) l.length (ints l),WrB w P0,pt c1 (.cells #[ptr n3] 259 (0,0)),RowP c2 ⟨wh,rb,rc,rd,rl,least,most,un⟩])
    · intro lo rec i q s hq
      match i,hq with
      | 0,hq =>
        obtain rfl : [pf n3 2,Value.int .i64 rb] = q := Option.some.inj hq
        dsimp only
        rw [stage_0]
        by_cases hz : rb = -1
        · repeat (first|(first|refine zB ?_|refine zE ?_|refine zG ?_|refine zK ?_|refine zP ?_|refine zJ rfl ?_)|(first|((first|refine zA rfl ?_);first|refine JOq (vW rfl rfl (by omega)) rfl ?_|refine zD rfl rfl ?_|refine zC rfl rfl ?_)))
          refine ⟨(),?_⟩
          show Ent _ (_ :: stage 1 _ _ _ _)
          rw [stage_1,optL_none hz,List.append_nil]
          exact .sel
        · obtain ⟨m,rfl⟩ := Int.eq_ofNat_of_zero_le hb.1
          have hp := putu_c w m P0 (by omega) (by first | omega|(simp only [List.length_append];omega))
          repeat (first|(first|refine zB ?_|refine zE ?_|refine zG ?_|refine zK ?_|refine zL rfl ?_)|(first|((first|refine zA rfl ?_);first|refine JOq (vS rfl rfl (by omega)) rfl ?_|refine zD rfl rfl ?_|refine zC rfl rfl ?_)))
          refine tG none [pt n2 (.cells #[ptr w] 93 (0,0)),pt n3 (.cells #[.int .i64 ((n : Nat) : Int),.int .i64 a,.int .i64 ((m : Nat) : Int),.int .i64 c,.int .i64 d,.slice p l.length cap] 52 (0,0))] Ent.sel ?_
          repeat' (first|refine JW_fin rfl ?_|refine JW_n rfl rfl (by kernel_rfl) (by kernel_rfl) (by kernel_rfl) (by kernel_rfl) rfl (by first|exact yX (a := m) rfl (xX (by omega))|exact yQ rfl|exact xE rfl|exact xL rfl) ?_|refine JW_only rfl ?_|refine vV rfl rfl (yK rfl hp rfl (fun _ _ => ⟨by first|exact (fun _ => Ent.sel),?_⟩)))
          refine ⟨(),?_⟩
          show Ent _ (_ :: stage 1 _ _ _ _)
          rw [stage_1,optL_some hz]
          exact .sel
      | 1,hq =>
        obtain rfl : [pf n3 3,Value.int .i64 rc] = q := Option.some.inj hq
        dsimp only
        rw [stage_1]
        by_cases hz : rc = -1
        · repeat (first|(first|refine zB ?_|refine zE ?_|refine zG ?_|refine zK ?_|refine zP ?_|refine zJ rfl ?_)|(first|((first|refine zA rfl ?_);first|refine JOq (vW rfl rfl (by omega)) rfl ?_|refine zD rfl rfl ?_|refine zC rfl rfl ?_)))
          refine ⟨(),?_⟩
          show Ent _ (_ :: stage 2 _ _ _ _)
          rw [stage_2,optL_none hz,List.append_nil]
          exact .sel
        · obtain ⟨m,rfl⟩ := Int.eq_ofNat_of_zero_le hcc.1
          have hp := putu_c w m (P0 ++ tF rb b) (by omega) (by first | omega|(simp only [List.length_append];omega))
          repeat (first|(first|refine zB ?_|refine zE ?_|refine zG ?_|refine zK ?_|refine zL rfl ?_)|(first|((first|refine zA rfl ?_);first|refine JOq (vS rfl rfl (by omega)) rfl ?_|refine zD rfl rfl ?_|refine zC rfl rfl ?_)))
          refine tG none [pt n2 (.cells #[ptr w] 93 (0,0)),pt n3 (.cells #[.int .i64 ((n : Nat) : Int),.int .i64 a,.int .i64 b,.int .i64 ((m : Nat) : Int),.int .i64 d,.slice p l.length cap] 52 (0,0))] Ent.sel ?_
          repeat' (first|refine JW_fin rfl ?_|refine JW_n rfl rfl (by kernel_rfl) (by kernel_rfl) (by kernel_rfl) (by kernel_rfl) rfl (by first|exact yX (a := m) rfl (xX (by omega))|exact yQ rfl|exact xE rfl|exact xL rfl) ?_|refine JW_only rfl ?_|refine vV rfl rfl (yK rfl hp rfl (fun _ _ => ⟨by first|exact (fun _ => Ent.sel),?_⟩)))
          refine ⟨(),?_⟩
          show Ent _ (_ :: stage 2 _ _ _ _)
          rw [stage_2,optL_some hz]
          exact .sel
      | 2,hq =>
        obtain rfl : [pf n3 4,Value.int .i64 rd] = q := Option.some.inj hq
        dsimp only
        rw [stage_2]
        by_cases hz : rd = -1
        · repeat (first|(first|refine zB ?_|refine zE ?_|refine zG ?_|refine zK ?_|refine zP ?_|refine zJ rfl ?_)|(first|((first|refine zA rfl ?_);first|refine JOq (vW rfl rfl (by omega)) rfl ?_|refine zD rfl rfl ?_|refine zC rfl rfl ?_)))
          refine ⟨(),?_⟩
          show Ent _ (_ :: stage 3 _ _ _ _)
          rw [stage_3,optL_none hz,List.append_nil]
          exact .sel
        · obtain ⟨m,rfl⟩ := Int.eq_ofNat_of_zero_le hd.1
          have hp := putu_c w m ((P0 ++ tF rb b) ++ tF rc c) (by omega) (by first | omega|(simp only [List.length_append];omega))
          repeat (first|(first|refine zB ?_|refine zE ?_|refine zG ?_|refine zK ?_|refine zL rfl ?_)|(first|((first|refine zA rfl ?_);first|refine JOq (vS rfl rfl (by omega)) rfl ?_|refine zD rfl rfl ?_|refine zC rfl rfl ?_)))
          refine tG none [pt n2 (.cells #[ptr w] 93 (0,0)),pt n3 (.cells #[.int .i64 ((n : Nat) : Int),.int .i64 a,.int .i64 b,.int .i64 c,.int .i64 ((m : Nat) : Int),.slice p l.length cap] 52 (0,0))] Ent.sel ?_
          repeat' (first|refine JW_fin rfl ?_|refine JW_n rfl rfl (by kernel_rfl) (by kernel_rfl) (by kernel_rfl) (by kernel_rfl) rfl (by first|exact yX (a := m) rfl (xX (by omega))|exact yQ rfl|exact xE rfl|exact xL rfl) ?_|refine JW_only rfl ?_|refine vV rfl rfl (yK rfl hp rfl (fun _ _ => ⟨by first|exact (fun _ => Ent.sel),?_⟩)))
          refine ⟨(),?_⟩
          show Ent _ (_ :: stage 3 _ _ _ _)
          rw [stage_3,optL_some hz]
          exact .sel
      | k + 3,hq => simp [smallV] at hq
    · intro rr s
      rw [show (smallV n3 ⟨wh,rb,rc,rd,rl,least,most,un⟩).length = 3 from rfl,stage_3]
      rw [show pre ++ BY = (((P0 ++ tF rb b) ++ tF rc c) ++ tF rd d) ++ ((if (least : Int) < (most : Int) then wY l.length else []) ++ l.flatMap vJ) from by rw [hby2];simp]
      have hA : (((P0 ++ tF rb b) ++ tF rc c) ++ tF rd d).length ≤ 900060 := by simp only [List.length_append];omega
      generalize (((P0 ++ tF rb b) ++ tF rc c) ++ tF rd d) = A3 at *
      repeat (first|(first|refine zB ?_|refine zE ?_|refine zG ?_)|(first|((first|refine zA rfl ?_);first|refine zU rfl (by rfl) rfl ?_|refine zR rfl (hcnt) rfl ?_)))
      refine J_cut [(2,ptr n2),(3,ptr n3),(6,ptr n6)] [pt rr (.deferred (some [])),pt n2 (.cells #[ptr w] 93 (0,0)),pt n3 (.cells #[.int .i64 ((n : Nat) : Int),.int .i64 a,.int .i64 b,.int .i64 c,.int .i64 d,.slice p l.length cap] 52 (0,0)),pt n6 (.cells #[.bool wh,.int .i64 rb,.int .i64 rc,.int .i64 rd,.int .i64 rl,.int .i64 (least : Int),.int .i64 (most : Int),.bool un] 252 (0,0)),Vw 1 (.slice p l.length cap) l.length (ints l),WrB w (A3 ++ (if (least : Int) < (most : Int) then wY l.length else []))] ?_ ?_
      · refine J_condP rfl (fun hlm => ?_) (fun hlm => ?_)
        · have hp := putu_c w l.length A3 (by omega) (by omega)
          rw [if_pos hlm]
          repeat (first|(first|refine zB ?_|refine zE ?_)|(first|((first|refine zA rfl ?_);first|refine JOq (yX (a := l.length) rfl (xX (by omega))) rfl ?_|refine yK rfl hp rfl (fun _ _ => ?_)|refine yF rfl rfl ?_|refine zF rfl rfl ?_|refine zH rfl rfl ?_)))
          exact ⟨by (repeat (first|exact zM _|refine zI rfl ?_)),rfl,Ent.sel⟩
        · rw [if_neg hlm,List.append_nil]
          repeat (first|(first|refine zP ?_)|(first|((first|refine zA rfl ?_);first|refine zD rfl rfl ?_)))
          exact ⟨by (repeat (first|exact zM _|refine zI rfl ?_)),rfl,Ent.sel⟩
      dsimp only [thn]
      rw [← List.append_assoc]
      have hA4 : (A3 ++ (if (least : Int) < (most : Int) then wY l.length else [])).length ≤ 900070 := by
        have := vM (n := l.length) (by omega)
        rw [List.length_append]
        split
        · omega
        · simp;omega
      generalize A3 ++ (if (least : Int) < (most : Int) then wY l.length else []) = A4 at *
      repeat (first|(first|refine zB ?_|refine zE ?_|refine zG ?_|refine zK ?_)|(first|((first|refine zA rfl ?_);first|refine zD rfl rfl ?_|refine yF rfl rfl ?_|refine zF rfl rfl ?_|refine zH rfl rfl ?_)))
      refine xU (β := { i : Nat // i ≤ l.length }) (fun i => [(2,ptr n2),(3,ptr n3),(56,.slice p l.length cap),(57,.int .i64 (l.length : Int)),(58,.int .i64 (i.1 : Int))]) (fun _ => [collected rr]) (fun i => [pt rr (.deferred (some [])),pt n2 (.cells #[ptr w] 93 (0,0)),pt n3 (.cells #[.int .i64 ((n : Nat) : Int),.int .i64 a,.int .i64 b,.int .i64 c,.int .i64 d,.slice p l.length cap] 52 (0,0)),pt n6 (.cells #[.bool wh,.int .i64 rb,.int .i64 rc,.int .i64 rd,.int .i64 rl,.int .i64 (least : Int),.int .i64 (most : Int),.bool un] 252 (0,0)),Vw 1 (.slice p l.length cap) l.length (ints l),WrB w (A4 ++ (l.take i.1).flatMap vJ)]) (fun i => l.length - i.1) ⟨0,by omega⟩ ?_ rfl (by rw [show A4 ++ (l.take 0).flatMap vJ = A4 from by simp];exact Ent.sel) ?_
      · (repeat (first|exact zM _|refine zI rfl ?_))
      rintro ⟨i,hi⟩
      dsimp only
      by_cases hil : i < l.length
      · obtain ⟨z,hz⟩ : ∃ z,l[i]? = some z := ⟨_,List.getElem?_eq_getElem hil⟩
        have hz1 := hmem z (List.mem_of_getElem? hz)
        obtain ⟨m,rfl⟩ := Int.eq_ofNat_of_zero_le hz1.1
        have hfl := flat_len (l := l.take i) (fun n hn => hmem n (List.mem_of_mem_take hn))
        have hp := putu_c w m (A4 ++ (l.take i).flatMap vJ) (by omega) (by rw [List.length_take] at hfl;rw [List.length_append];omega)
        repeat (first|(first|refine zB ?_|refine zE ?_|refine zG ?_|refine zK ?_|refine zP ?_|refine zL rfl ?_)|(first|((first|refine zA rfl ?_);first|refine JOq (yH rfl rfl (by omega)) rfl ?_|refine JO_indexV1 (cs := ints l) rfl rfl hil _ (ints_get hz) rfl fun b1 o1 hl1 => ?_|refine wU rfl hl1 rfl ?_|refine JOq (yX (a := m) rfl (xX (by omega))) rfl ?_|refine yK rfl hp rfl (fun _ _ => ?_)|refine yZ (b := 1) rfl rfl (by omega) rfl ?_|refine zD rfl rfl ?_|refine zC rfl rfl ?_|refine zH rfl rfl ?_)))
        refine ⟨⟨i + 1,by omega⟩,by simp only;omega,by (repeat (first|exact zM _|refine zI rfl ?_)),rfl,?_⟩
        rw [show A4 ++ (l.take (i + 1)).flatMap vJ = (A4 ++ (l.take i).flatMap vJ) ++ wY m from by rw [List.take_add_one,hz];simp [vJ]]
        exact Ent.sel
      · obtain rfl : i = l.length := by omega
        rw [List.take_length]
        repeat (first|(first|refine zB ?_|refine zE ?_|refine zG ?_|refine zJ rfl ?_|refine xA ?_|refine zV ?_)|(first|((first|refine zA rfl ?_);first|refine JOq (yS rfl rfl (by omega)) rfl ?_|refine zC rfl rfl ?_)))
        exact endM_tV rfl rfl Ent.sel
    · intro rr s
      exact s.elim
end Go.Proofs.YtickblndgihoeaaGreatDoor

/- Layer 11: laying: bytes are laid,or it ends in a panic;numbers,flags,edges. -/
namespace Go.Proofs.YtickblndgihoeaaGreatDoor
open Go Go.Sp
abbrev OB := Option (List UInt8)
abbrev stopV (v : Value) : Value := .iface 184 (.agg #[v])
abbrev stopA : Value := stopV (errno 2)
def xM : OB → OB → OB
  | some a,some b => some (a ++ b)
  | _,_ => none
@[simp] theorem catO_none (x : OB) : xM none x = none := rfl
@[simp] theorem catO_none' (x : OB) : xM x none = none := by cases x <;> rfl
@[simp] theorem catO_some (a b : List UInt8) : xM (some a) (some b) = some (a ++ b) := rfl
theorem xK (x : OB) : xM (some []) x = x := by cases x <;> rfl
class TkWr (w : Nat) (L : List HP) (q : outParam (List UInt8)) (M : outParam (List HP)) : Prop where h : L.Perm (WrB w q :: M)
instance tkwr_head (w : Nat) (q : List UInt8) (L : List HP) : TkWr w (WrB w q :: L) q L := ⟨.refl _⟩
instance (priority := low) tkwr_tail (w : Nat) (A : HP) (q : List UInt8) (L M : List HP) [h : TkWr w L q M] : TkWr w (A :: L) q (A :: M) := ⟨(h.h.cons A).trans (List.Perm.swap _ _ _)⟩
def OutP (o : OB) (w : Nat) (pre : List UInt8) (K : List HP) : Ending → List HP → Prop := fun e L => match o with
  | some bs => e = .returned (.tuple #[]) ∧ L = WrB w (pre ++ bs) :: K
  | none => e = .panicked [{ v := stopA,recovered := false }] ∧ L = []
def MustP (b : Bool) : Ending → List HP → Prop := fun e L => match b with
  | true => e = .returned (.tuple #[]) ∧ L = []
  | false => e = .panicked [{ v := stopA,recovered := false }] ∧ L = []
section
variable {N : Nat} {rd : Option Nat} {E : Env} {D : List Deferred} {L : List HP} {Q : uF} {next : Env → List Deferred → List HP → Prop}
variable {d : Option Nat} {ty : TypeId} {pos : String} {after : Array Edge} {g : Option (Nat × Bool)}
theorem xJ {o : OB} {w : Nat} {pre : List UInt8} {K M L1 : List HP} {f : FuncId} [hf : CF Tryz.prog f] {args : Array Operand} {ts : Array TypeId} {vs : List Value} (hx : evs E args.toList = some vs)
    (hc : Ct Tryz.prog f vs.toArray (WrB w pre :: K) (OutP o w pre K)) [hs : Sel (WrB w pre :: K) L M] [ha : AppH K M L1] (hd : dok N d = true) (hv : ∀ bs,o = some bs → next (put E d (.tuple #[])) D (WrB w (pre ++ bs) :: L1))
    (hn : o = none → Q (.panic [{ v := stopA,recovered := false }]) E D M) : JO Tryz.prog N rd ⟨d,.call ⟨.value (.func f),args,ts⟩,ty,pos,after,g⟩ E D L next Q :=
  JO_call hx hc.use hd
    (fun _ _ ⟨_,h,hL'⟩ => by
      cases o with
      | none => exact absurd h.1 (by simp)
      | some bs => obtain ⟨he,hL⟩ := h;cases he;rw [hL',hL,List.cons_append,ha.h];exact hv bs rfl)
    (fun _ _ ⟨_,h,hL'⟩ => by
      cases o with
      | some bs => exact absurd h.1 (by simp)
      | none => obtain ⟨he,hL⟩ := h;cases he;rw [hL',hL];exact hn rfl)
theorem JO_callCO {o : OB} {w : Nat} {pre : List UInt8} {K M L1 : List HP} {f : FuncId} [hf : CF Tryz.prog f] {x : Operand} {args : Array Operand} {ts : Array TypeId} {vs fs cs : List Value} (hfv : ev E x = some (.func (.func f) fs.toArray cs.toArray)) (hx : evs E args.toList = some vs)
    (hc : Ct Tryz.prog f (fs ++ vs ++ cs).toArray (WrB w pre :: K) (OutP o w pre K)) [hs : Sel (WrB w pre :: K) L M] [ha : AppH K M L1] (hd : dok N d = true) (hv : ∀ bs,o = some bs → next (put E d (.tuple #[])) D (WrB w (pre ++ bs) :: L1))
    (hn : o = none → Q (.panic [{ v := stopA,recovered := false }]) E D M) : JO Tryz.prog N rd ⟨d,.call ⟨.value x,args,ts⟩,ty,pos,after,g⟩ E D L next Q :=
  JO_callV hfv hx hc.use hd
    (fun _ _ ⟨_,h,hL'⟩ => by
      cases o with
      | none => exact absurd h.1 (by simp)
      | some bs => obtain ⟨he,hL⟩ := h;cases he;rw [hL',hL,List.cons_append,ha.h];exact hv bs rfl)
    (fun _ _ ⟨_,h,hL'⟩ => by
      cases o with
      | some bs => exact absurd h.1 (by simp)
      | none => obtain ⟨he,hL⟩ := h;cases he;rw [hL',hL];exact hn rfl)
theorem wN {b : Bool} {f : FuncId} [hf : CF Tryz.prog f] {args : Array Operand} {ts : Array TypeId} {vs : List Value} (hx : evs E args.toList = some vs) (hc : Ct Tryz.prog f vs.toArray [] (MustP b)) (hd : dok N d = true)
    (ht : b = true → next (put E d (.tuple #[])) D L) (hn : b = false → Q (.panic [{ v := stopA,recovered := false }]) E D L) : JO Tryz.prog N rd ⟨d,.call ⟨.value (.func f),args,ts⟩,ty,pos,after,g⟩ E D L next Q :=
  JO_call hx (Ct.use (M := L) hc) hd
    (fun _ _ ⟨_,h,hL'⟩ => by
      cases b with
      | false => exact absurd h.1 (by simp)
      | true => obtain ⟨he,hL⟩ := h;cases he;rw [hL',hL];exact ht rfl)
    (fun _ _ ⟨_,h,hL'⟩ => by
      cases b with
      | true => exact absurd h.1 (by simp)
      | false => obtain ⟨he,hL⟩ := h;cases he;rw [hL',hL];exact hn rfl)
variable {o : OB} {w : Nat} {pre q : List UInt8} {fn : Func} {P : Program} {K M : List HP}
theorem yW (h : o = none) : ([] : List Deferred) = [] ∧ ∃ L',Ent L L' ∧ OutP o w pre K (.panicked [{ v := stopA,recovered := false }]) L' := ⟨rfl,[],Ent.nil,by rw [h];exact ⟨rfl,rfl⟩⟩
theorem uP {bs : List UInt8} (hr : fn.results = #[]) [ht : TkWr w L q M] (h : o = some bs) (hq : q = pre ++ bs) (he : Ent M K) : bodyQ P N fn (fun e L => ∃ L',Ent L L' ∧ OutP o w pre K e L') .normal E [] L :=
  ⟨rfl,_,res_none hr,WrB w q :: K,(Ent.perm ht.h).trans (Ent.keep he),by subst h hq;exact ⟨rfl,rfl⟩⟩
theorem outP_ret {bs : List UInt8} (hr : fn.results = #[]) [ht : TkWr w L q M] (h : o = some bs) (hq : q = pre ++ bs) (he : Ent M K) : bodyQ P N fn (fun e L => ∃ L',Ent L L' ∧ OutP o w pre K e L') .ret E [] L :=
  ⟨rfl,_,res_none hr,WrB w q :: K,(Ent.perm ht.h).trans (Ent.keep he),by subst h hq;exact ⟨rfl,rfl⟩⟩
end
abbrev lay (w : Nat) : Value := .agg #[ptr w]
attribute [local irreducible] callFunc Go.method J JL JO JR JR1 JRl Ct JG JM JM1 JW JW1 JQ JQ0 JS CtD xB WrB by8
theorem xY (b : Bool) : Ct Tryz.prog 108 #[.bool b] [] (MustP b) := by
  refine yE (vs := [_]) Tryz.func108 rfl Tryz.ntmps108 (by simp) ?_
  cases b
  · repeat (first|(first|refine zB ?_|refine zE ?_|refine zG ?_|refine zL rfl ?_)|(first|((first|refine zA rfl ?_);first|refine yG (cs := [errno 2]) rfl rfl rfl ?_|refine JO_panic rfl ?_|refine zD rfl rfl ?_|refine xD rfl rfl ?_|refine vD (by simp) rfl rfl ?_)))
    exact ⟨rfl,_,.nil,rfl,rfl⟩
  · repeat (first|(first|refine zB ?_|refine zE ?_|refine zG ?_|refine zP ?_|refine zJ rfl ?_)|(first|((first|refine zA rfl ?_);first|refine zD rfl rfl ?_|refine xD rfl rfl ?_)))
    exact ⟨rfl,_,res_none rfl,_,.nil,rfl,rfl⟩
def wK (n most : Int) : OB := if 0 ≤ n ∧ n ≤ most then some (vJ n) else none
def flagO (b : Bool) : OB := some [if b then 1 else 0]
def wV (b : Bool) : OB := if b then some [] else none
theorem numO_in {n most : Int} (h : 0 ≤ n ∧ n ≤ most) : wK n most = some (vJ n) := by unfold wK;rw [if_pos h]
theorem numO_out {n most : Int} (h : ¬ (0 ≤ n ∧ n ≤ most)) : wK n most = none := by unfold wK;rw [if_neg h]
theorem wC : wV true = some [] := rfl
theorem xZ : wV false = none := rfl
theorem numO_le {n most : Int} {bs : List UInt8} (h : wK n most = some bs) : 0 ≤ n ∧ n ≤ most := by
  unfold wK at h
  split at h
  · assumption
  · cases h
theorem vA {n most : Int} {bs : List UInt8} (h : wK n most = some bs) (hm : most ≤ 1000000) : bs.length ≤ 10 := by
  unfold wK at h
  split at h
  · cases h;exact vM (by omega)
  · cases h
set_option maxHeartbeats 1000000 in
theorem uG (w : Nat) (pre : List UInt8) (n most : Int) (hpre : pre.length ≤ 990000) (hm : most ≤ 9223372036854775807) : Ct Tryz.prog 109 #[lay w,.int .i64 n,.int .i64 most] [WrB w pre] (OutP (wK n most) w pre []) := by
  refine yE (vs := [_,_,_]) Tryz.func109 rfl Tryz.ntmps109 (by simp) ?_
  have mt := xY true
  have mf := xY false
  by_cases h0 : 0 ≤ n
  · by_cases h1 : n ≤ most
    · rw [numO_in ⟨h0,h1⟩]
      obtain ⟨m,rfl⟩ := Int.eq_ofNat_of_zero_le h0
      have hp := putu_c w m pre (by omega) (by omega)
      repeat (first|(first|refine zB ?_|refine zE ?_|refine zG ?_)|(first|((first|refine zA rfl ?_|refine zZ rfl rfl ?_);first|refine JOq (JQ_leqT rfl rfl (by omega)) rfl ?_|refine JOq (JQ_geqT rfl rfl (by omega)) rfl ?_|refine wN rfl mt rfl (fun _ => ?_) (fun h => absurd h (by decide))|refine JOq (yX (a := m) rfl (xX (by omega))) rfl ?_|refine yK rfl hp rfl (fun _ _ => ?_)|refine zD rfl rfl ?_|refine zF rfl rfl ?_|refine zH rfl rfl ?_|refine yA rfl rfl rfl ?_|refine yN rfl rfl (fun r => ?_))))
      exact uP rfl rfl (by rw [vJ,Int.toNat_natCast]) .nil
    · rw [numO_out (by omega)]
      repeat (first|(first|refine zB ?_|refine zE ?_|refine zG ?_)|(first|((first|refine zA rfl ?_|refine zZ rfl rfl ?_);first|refine JOq (JQ_leqF rfl rfl (by omega)) rfl ?_|refine JOq (JQ_geqT rfl rfl (by omega)) rfl ?_|refine wN rfl mf rfl (fun h => absurd h (by decide)) (fun _ => ?_)|refine zD rfl rfl ?_|refine yA rfl rfl rfl ?_|refine yN rfl rfl (fun r => ?_))))
      exact yW rfl
  · rw [numO_out (by omega)]
    repeat (first|(first|refine zB ?_|refine zE ?_|refine zG ?_)|(first|((first|refine zA rfl ?_);first|refine JOq (JQ_geqF rfl rfl (by omega)) rfl ?_|refine wN rfl mf rfl (fun h => absurd h (by decide)) (fun _ => ?_)|refine zD rfl rfl ?_|refine yJ rfl rfl rfl ?_|refine yN rfl rfl (fun r => ?_))|refine yU rfl rfl rfl ?_))
    exact yW rfl
theorem flag11_c (w : Nat) (pre : List UInt8) (b : Bool) (hpre : pre.length ≤ 990000) : Ct Tryz.prog 110 #[lay w,.bool b] [WrB w pre] (OutP (flagO b) w pre []) := by
  refine yE (vs := [_,_]) Tryz.func110 rfl Tryz.ntmps110 (by simp) ?_
  have h1 := uG w pre 1 1 hpre (by decide)
  have h0 := uG w pre 0 1 hpre (by decide)
  cases b
  · repeat (first|(first|refine zB ?_|refine zE ?_|refine zG ?_|refine zP ?_|refine zJ rfl ?_)|(first|((first|refine zA rfl ?_);first|refine xJ rfl h0 rfl (fun bs h => ?_) (fun h => absurd h (by simp [wK]))|refine zD rfl rfl ?_|refine zU rfl (by rfl) rfl ?_|refine yN rfl rfl (fun r => ?_))))
    exact uP rfl rfl (by rw [numO_in (by omega)] at h;cases h;simp [vJ,encU_lt]) .nil
  · repeat (first|(first|refine zB ?_|refine zE ?_|refine zG ?_|refine zL rfl ?_|refine zV ?_)|(first|((first|refine zA rfl ?_);first|refine xJ rfl h1 rfl (fun bs h => ?_) (fun h => absurd h (by simp [wK]))|refine zD rfl rfl ?_|refine zU rfl (by rfl) rfl ?_|refine yN rfl rfl (fun r => ?_))))
    exact outP_ret rfl rfl (by rw [numO_in (by omega)] at h;cases h;simp [vJ,encU_lt]) .nil
abbrev yI (e : Int × Int) : List Value := [.int .i64 e.1,.int .i64 e.2]
def xV (e : Int × Int) : OB := xM (wK e.1 63) (wK e.2 1000)
theorem vL {e : Int × Int} {bs : List UInt8} (h : xV e = some bs) : bs.length ≤ 20 := by
  unfold xV at h
  cases h1 : wK e.1 63 with
  | none => rw [h1] at h;cases h
  | some a =>
    cases h2 : wK e.2 1000 with
    | none => rw [h1,h2] at h;cases h
    | some b =>
      rw [h1,h2] at h
      cases h
      have := vA h1 (by decide)
      have := vA h2 (by decide)
      rw [List.length_append]
      omega
theorem edge11_c (w : Nat) (pre : List UInt8) (e : Int × Int) (hpre : pre.length ≤ 980000) : Ct Tryz.prog 111 #[lay w,.agg (yI e).toArray] [WrB w pre] (OutP (xV e) w pre []) := by
  refine yE (vs := [_,_]) Tryz.func111 rfl Tryz.ntmps111 (by simp) ?_
  have h1 := uG w pre e.1 63 (by omega) (by decide)
  repeat (first|(first|refine zB ?_|refine zE ?_|refine zG ?_)|(first|((first|refine zA rfl ?_);first|refine zF rfl rfl ?_|refine zH rfl rfl ?_|refine zU rfl (by rfl) rfl ?_|refine yN rfl rfl (fun r => ?_))))
  refine zA rfl (xJ rfl h1 rfl (fun b1 g1 => ?_) (fun g1 => yW (by simp [xV,g1])))
  have l1 := vA g1 (by decide)
  have h2 := uG w (pre ++ b1) e.2 1000 (by rw [List.length_append];omega) (by decide)
  repeat (first|(first|refine zB ?_|refine zE ?_)|(first|((first|refine zA rfl ?_);first|refine xJ rfl h2 rfl (fun b2 g2 => ?_) (fun g2 => yW (by simp [xV,g2]))|refine zF rfl rfl ?_|refine zH rfl rfl ?_|refine zU rfl (by rfl) rfl ?_)))
  exact uP rfl (show xV e = some (b1 ++ b2) by simp [xV,g1,g2]) (by simp) .nil
theorem typ11_c (w : Nat) (pre : List UInt8) (e : Int × Int) (hpre : pre.length ≤ 980000) : Ct Tryz.prog 59 #[lay w,.agg (yI e).toArray] [WrB w pre] (OutP (xV e) w pre []) := by
  refine yE (vs := [_,_]) Tryz.func59 rfl Tryz.ntmps59 (by simp) ?_
  have h1 := uG w pre e.1 63 (by omega) (by decide)
  repeat (first|(first|refine zB ?_|refine zE ?_|refine zG ?_)|(first|((first|refine zA rfl ?_);first|refine zF rfl rfl ?_|refine zH rfl rfl ?_|refine zU rfl (by rfl) rfl ?_|refine yN rfl rfl (fun r => ?_))))
  refine zA rfl (xJ rfl h1 rfl (fun b1 g1 => ?_) (fun g1 => yW (by simp [xV,g1])))
  have l1 := vA g1 (by decide)
  have h2 := uG w (pre ++ b1) e.2 1000 (by rw [List.length_append];omega) (by decide)
  repeat (first|(first|refine zB ?_|refine zE ?_)|(first|((first|refine zA rfl ?_);first|refine xJ rfl h2 rfl (fun b2 g2 => ?_) (fun g2 => yW (by simp [xV,g2]))|refine zF rfl rfl ?_|refine zH rfl rfl ?_|refine zU rfl (by rfl) rfl ?_)))
  exact uP rfl (show xV e = some (b1 ++ b2) by simp [xV,g1,g2]) (by simp) .nil
end Go.Proofs.YtickblndgihoeaaGreatDoor

/- The library,48: equal bools. -/
namespace Go.Sp
open Go
section
variable {P : Program} {N : Nat} {E : Env} {D : List Deferred} {L L0 : List HP} {Q : uF} {m : Nat}
variable {d : Option Nat} {ty : TypeId} {pos : String} {after : Array Edge} {g : Option (Nat × Bool)}
end
end Go.Sp
