/- Layer 9: whether operands fit. -/
import Derived.Test.YtickblndgihoeaaGreatDoorM5
set_option linter.unusedSimpArgs false
namespace Go.Proofs.YtickblndgihoeaaGreatDoor
open Go Go.Sp
def inP (n m : Int) : Prop := 0 ≤ n ∧ n ≤ max m 0
def okAt (un : Bool) (rl : Int) (l : List Int) (i : Nat) : Prop := ∀ n,l[i]? = some n → (un = true → ∀ j,j < i → l[j]? ≠ some n) ∧ 0 ≤ n ∧ n ≤ rl
def okL (un : Bool) (rl : Int) (l : List Int) : Prop := ∀ i,i < l.length → okAt un rl l i
def headP (r : Row) (x : Ins) : Prop := (r.whole = true ∨ x.a = 0) ∧ r.least ≤ x.l.length ∧ x.l.length ≤ r.most
def pairP (r : Row) (x : Ins) : Prop := r.unlike = false ∨ r.c = -1 ∨ x.b ≠ x.c
def fitsP (r : Row) (x : Ins) : Prop := headP r x ∧ (inP x.b r.b ∧ inP x.c r.c ∧ inP x.d r.d) ∧ pairP r x ∧ okL r.unlike r.l x.l
theorem okL_of {un : Bool} {rl : Int} {l : List Int} (h : ∀ j,j < l.length → okAt un rl l j) : okL un rl l := h
theorem okL_at {un : Bool} {rl : Int} {l : List Int} {i : Nat} (h : okL un rl l) (hi : i < l.length) : okAt un rl l i := h i hi
theorem okAt_twice {rl : Int} {l : List Int} {i k : Nat} {u : Int} (h : okAt true rl l i) (hn : l[i]? = some u) (hk : k < i) (hu : l[k]? = some u) : False := (h u hn).1 rfl k hk hu
theorem okAt_out {un : Bool} {rl : Int} {l : List Int} {i : Nat} {n : Int} (h : okAt un rl l i) (hn : l[i]? = some n) (ho : n < 0 ∨ rl < n) : False := by
  have := (h n hn).2
  omega
theorem okAt_in {un : Bool} {rl : Int} {l : List Int} {i : Nat} {n : Int} (hn : l[i]? = some n) (hk : un = true → ∀ j,j < i → l[j]? ≠ some n) (h0 : 0 ≤ n) (h1 : n ≤ rl) : okAt un rl l i := fun m hm => by
  rw [hn] at hm
  cases hm
  exact ⟨hk,h0,h1⟩
attribute [local irreducible] callFunc Go.method J JL JO JR JR1 JRl Ct JG JM JM1 JW JW1 JQ JQ0 JS CtD xB stage Fact headP pairP okL okAt inP ints
set_option maxRecDepth 8000 in
set_option maxHeartbeats 8000000 in
theorem fits_c (r : Row) (x : Ins) (p : Option Addr) (cap : Nat) (hc : x.l.length ≤ cap) (hm : x.l.length ≤ 1000000) :
    Ct Tryz.prog 169 #[.agg (tK r).toArray,.agg (insC x (.slice p x.l.length cap)).toArray] [Vw 1 (.slice p x.l.length cap) x.l.length (ints x.l)] (wF (.bool (bP (fitsP r x))) []) := by
  have hfit : fitsP r x ↔ headP r x ∧ (inP x.b r.b ∧ inP x.c r.c ∧ inP x.d r.d) ∧ pairP r x ∧ okL r.unlike r.l x.l := Iff.rfl
  have hhead : headP r x ↔ (r.whole = true ∨ x.a = 0) ∧ r.least ≤ x.l.length ∧ x.l.length ≤ r.most := by unfold headP;exact Iff.rfl
  have hpair : pairP r x ↔ (r.unlike = false ∨ r.c = -1 ∨ x.b ≠ x.c) := by unfold pairP;exact Iff.rfl
  generalize fitsP r x = FP at *
  generalize headP r x = HDP at *
  generalize pairP r x = PP at *
  rcases r with ⟨wh,rb,rc,rd,rl,least,most,un⟩
  rcases x with ⟨op,a,b,c,d,l⟩
  dsimp only at *
  refine fn_retM (vs := [_,_]) Tryz.func169 rfl Tryz.ntmps169 (by simp) ?_
  unfold tK insC
  dsimp only
  repeat (first|(first|refine zB ?_|refine zE ?_|refine zG ?_)|(first|((first|refine zA rfl ?_);first|refine yN rfl rfl (fun r => ?_)|refine tL (by rfl) rfl (fun r => ?_))))
  rename_i n2 n3
  revert r
  intro n4
  refine J_scope ?_
  repeat (first|(first|refine zB ?_|refine zG ?_)|(first|((first|refine zA rfl ?_);first|refine zD rfl rfl ?_|refine zF rfl rfl ?_|refine zH rfl rfl ?_|refine xD rfl rfl ?_)))
  refine JL_cut [(35,.bool (bP (¬ HDP))),(2,ptr n2),(3,ptr n3),(4,ptr n4)] [pt n2 (.cells #[.bool wh,.int .i64 rb,.int .i64 rc,.int .i64 rd,.int .i64 rl,.int .i64 (least : Int),.int .i64 (most : Int),.bool un] 252 (0,0)),pt n3 (.cells #[.int .i64 op,.int .i64 a,.int .i64 b,.int .i64 c,.int .i64 d,.slice p l.length cap] 52 (0,0)),pt n4 (.cells #[.bool false] 4 (0,0)),Vw 1 (.slice p l.length cap) l.length (ints l)] ?_ ?_
  · cases wh with
    | true =>
      by_cases h2 : least ≤ l.length
      · by_cases h3 : l.length ≤ most
        · repeat (first|(first|refine zE ?_)|(first|((first|refine zA rfl ?_|refine zZ rfl rfl ?_);first|refine JOq (yS rfl rfl (by omega)) rfl ?_|refine JOq (JQ_gtrF rfl rfl (by omega)) rfl ?_|refine zD rfl rfl ?_|refine yF rfl rfl ?_|refine zF rfl rfl ?_|refine zH rfl rfl ?_|refine yJ rfl rfl rfl ?_)|refine yU rfl rfl rfl ?_))
          exact ⟨sub_bool rfl (bP_f (fun hn => hn (hhead.2 ⟨.inl rfl,h2,h3⟩))) (by (repeat (first|exact zM _|refine zI rfl ?_))),rfl,Ent.sel⟩
        · repeat (first|(first|refine zE ?_)|(first|((first|refine zA rfl ?_|refine zZ rfl rfl ?_);first|refine JOq (yS rfl rfl (by omega)) rfl ?_|refine JOq (JQ_gtrT rfl rfl (by omega)) rfl ?_|refine zD rfl rfl ?_|refine yF rfl rfl ?_|refine zF rfl rfl ?_|refine zH rfl rfl ?_|refine yJ rfl rfl rfl ?_)|refine yU rfl rfl rfl ?_))
          exact ⟨sub_bool rfl (bP_t (fun h => h3 (hhead.1 h).2.2)) (by (repeat (first|exact zM _|refine zI rfl ?_))),rfl,Ent.sel⟩
      · repeat (first|(first|refine zE ?_)|(first|((first|refine zA rfl ?_|refine zZ rfl rfl ?_);first|refine JOq (yH rfl rfl (by omega)) rfl ?_|refine zD rfl rfl ?_|refine yF rfl rfl ?_|refine zF rfl rfl ?_|refine zH rfl rfl ?_|refine yA rfl rfl rfl ?_|refine yJ rfl rfl rfl ?_)|refine yU rfl rfl rfl ?_))
        exact ⟨sub_bool rfl (bP_t (fun h => h2 (hhead.1 h).2.1)) (by (repeat (first|exact zM _|refine zI rfl ?_))),rfl,Ent.sel⟩
    | false =>
      by_cases h1 : a = 0
      · by_cases h2 : least ≤ l.length
        · by_cases h3 : l.length ≤ most
          · repeat (first|(first|refine zE ?_)|(first|((first|refine zA rfl ?_|refine zZ rfl rfl ?_);first|refine JOq (yS rfl rfl (by omega)) rfl ?_|refine JOq (JQ_gtrF rfl rfl (by omega)) rfl ?_|refine JOq (vW rfl rfl (by omega)) rfl ?_|refine zD rfl rfl ?_|refine yF rfl rfl ?_|refine zF rfl rfl ?_|refine zH rfl rfl ?_|refine yA rfl rfl rfl ?_|refine yJ rfl rfl rfl ?_)))
            exact ⟨sub_bool rfl (bP_f (fun hn => hn (hhead.2 ⟨.inr h1,h2,h3⟩))) (by (repeat (first|exact zM _|refine zI rfl ?_))),rfl,Ent.sel⟩
          · repeat (first|(first|refine zE ?_)|(first|((first|refine zA rfl ?_|refine zZ rfl rfl ?_);first|refine JOq (yS rfl rfl (by omega)) rfl ?_|refine JOq (JQ_gtrT rfl rfl (by omega)) rfl ?_|refine JOq (vW rfl rfl (by omega)) rfl ?_|refine zD rfl rfl ?_|refine yF rfl rfl ?_|refine zF rfl rfl ?_|refine zH rfl rfl ?_|refine yA rfl rfl rfl ?_|refine yJ rfl rfl rfl ?_)))
            exact ⟨sub_bool rfl (bP_t (fun h => h3 (hhead.1 h).2.2)) (by (repeat (first|exact zM _|refine zI rfl ?_))),rfl,Ent.sel⟩
        · repeat (first|(first|refine zE ?_)|(first|((first|refine zA rfl ?_|refine zZ rfl rfl ?_);first|refine JOq (yH rfl rfl (by omega)) rfl ?_|refine JOq (vW rfl rfl (by omega)) rfl ?_|refine zD rfl rfl ?_|refine yF rfl rfl ?_|refine zF rfl rfl ?_|refine zH rfl rfl ?_|refine yA rfl rfl rfl ?_|refine yJ rfl rfl rfl ?_)|refine yU rfl rfl rfl ?_))
          exact ⟨sub_bool rfl (bP_t (fun h => h2 (hhead.1 h).2.1)) (by (repeat (first|exact zM _|refine zI rfl ?_))),rfl,Ent.sel⟩
      · repeat (first|(first|refine zE ?_)|(first|((first|refine zA rfl ?_|refine zZ rfl rfl ?_);first|refine JOq (vS rfl rfl (by omega)) rfl ?_|refine zD rfl rfl ?_|refine zF rfl rfl ?_|refine zH rfl rfl ?_|refine yA rfl rfl rfl ?_)|refine yU rfl rfl rfl ?_))
        exact ⟨sub_bool rfl (bP_t (fun h => (hhead.1 h).1.elim (fun h => by cases h) h1)) (by (repeat (first|exact zM _|refine zI rfl ?_))),rfl,Ent.sel⟩
  dsimp only [thn]
  refine J_condP rfl (fun hd0 => ?_) (fun hd0 => ?_)
  · rw [show bP FP = false from (bP_f (fun h => hd0 (hfit.1 h).1)).symm]
    repeat (first|(first|refine zB ?_|refine zE ?_|refine zG ?_|refine zV ?_)|(first|((first|refine zA rfl ?_);first|refine zW rfl rfl (by first | rfl | assumption) rfl ?_)))
    exact ⟨_,res_cell1 rfl rfl rfl,_,Ent.nil,rfl,rfl⟩
  have hd1 : HDP := Classical.not_not.1 hd0
  have hsm := small_c ⟨wh,rb,rc,rd,rl,least,most,un⟩ n3
  unfold tK at hsm
  repeat (first|(first|refine zB ?_|refine zE ?_|refine zG ?_|refine zK ?_|refine zP ?_)|(first|((first|refine zA rfl ?_);first|refine yK rfl hsm rfl (fun cx _ => ?_)|refine zU rfl (by rfl) rfl ?_)))
  obtain ⟨c1,c2⟩ := cx
  dsimp only
  refine J_range (σ := Unit) (τ := Unit) (fun i _ => stage i [Fact (True),pt n2 (.cells #[.bool wh,.int .i64 rb,.int .i64 rc,.int .i64 rd,.int .i64 rl,.int .i64 (least : Int),.int .i64 (most : Int),.bool un] 252 (0,0)),pt n3 (.cells #[.int .i64 op,.int .i64 a,.int .i64 b,.int .i64 c,.int .i64 d,.slice p l.length cap] 52 (0,0)),pt n4 (.cells #[.bool false] 4 (0,0)),Vw 1 (.slice p l.length cap) l.length (ints l)] [Fact (inP b rb),pt n2 (.cells #[.bool wh,.int .i64 rb,.int .i64 rc,.int .i64 rd,.int .i64 rl,.int .i64 (least : Int),.int .i64 (most : Int),.bool un] 252 (0,0)),pt n3 (.cells #[.int .i64 op,.int .i64 a,.int .i64 b,.int .i64 c,.int .i64 d,.slice p l.length cap] 52 (0,0)),pt n4 (.cells #[.bool false] 4 (0,0)),Vw 1 (.slice p l.length cap) l.length (ints l)] [Fact (inP b rb ∧ inP c rc),pt n2 (.cells #[.bool wh,.int .i64 rb,.int .i64 rc,.int .i64 rd,.int .i64 rl,.int .i64 (least : Int),.int .i64 (most : Int),.bool un] 252 (0,0)),pt n3 (.cells #[.int .i64 op,.int .i64 a,.int .i64 b,.int .i64 c,.int .i64 d,.slice p l.length cap] 52 (0,0)),pt n4 (.cells #[.bool false] 4 (0,0)),Vw 1 (.slice p l.length cap) l.length (ints l)] [Fact (inP b rb ∧ inP c rc ∧ inP d rd),pt n2 (.cells #[.bool wh,.int .i64 rb,.int .i64 rc,.int .i64 rd,.int .i64 rl,.int .i64 (least : Int),.int .i64 (most : Int),.bool un] 252 (0,0)),pt n3 (.cells #[.int .i64 op,.int .i64 a,.int .i64 b,.int .i64 c,.int .i64 d,.slice p l.length cap] 52 (0,0)),pt n4 (.cells #[.bool false] 4 (0,0)),Vw 1 (.slice p l.length cap) l.length (ints l)]) (fun _ => .ret) (fun _ => [Fact (¬ (inP b rb ∧ inP c rc ∧ inP d rd)),pt n4 (.cells #[.bool false] 4 (0,0))]) rfl (small1_c c1 c2 n3 ⟨wh,rb,rc,rd,rl,least,most,un⟩) ?_ ?_ () ?_ ?_ ?_ ?_
  · intro q hq
    simp only [smallV,List.mem_cons,List.not_mem_nil,or_false] at hq
    rcases hq with rfl | rfl | rfl <;> rfl
  · decide
  · rw [stage_0]
    exact (wD (p := True) trivial).trans (Ent.sel (K := [Fact (True),pt n2 (.cells #[.bool wh,.int .i64 rb,.int .i64 rc,.int .i64 rd,.int .i64 rl,.int .i64 (least : Int),.int .i64 (most : Int),.bool un] 252 (0,0)),pt n3 (.cells #[.int .i64 op,.int .i64 a,.int .i64 b,.int .i64 c,.int .i64 d,.slice p l.length cap] 52 (0,0)),pt n4 (.cells #[.bool false] 4 (0,0)),Vw 1 (.slice p l.length cap) l.length (ints l),pt c1 (.cells #[ptr n3] 259 (0,0)),RowP c2 ⟨wh,rb,rc,rd,rl,least,most,un⟩]))
  · intro lo rec i q s hq
    match i,hq with
      | 0,hq =>
        obtain rfl : [pf n3 2,Value.int .i64 rb] = q := Option.some.inj hq
        dsimp only
        rw [stage_0]
        refine J_say fact_out (fun hf => ?_)
        by_cases hk : inP b rb
        · obtain ⟨hk1,hk2⟩ : 0 ≤ b ∧ b ≤ max rb 0 := by unfold inP at hk;exact hk
          repeat (first|(first|refine zB ?_|refine zE ?_|refine zG ?_|refine zK ?_|refine zP ?_|refine zJ rfl ?_)|(first|((first|refine zA rfl ?_|refine zZ rfl rfl ?_);first|refine JOq (yS rfl rfl (by omega)) rfl ?_|refine JOq (JQ_gtrF rfl rfl (by omega)) rfl ?_|refine JOq (yQ rfl) rfl ?_|refine JO_max rfl rfl rfl ?_|refine zD rfl rfl ?_|refine zC rfl rfl ?_|refine zH rfl rfl ?_|refine yJ rfl rfl rfl ?_)))
          refine ⟨(),?_⟩
          show Ent _ (_ :: stage 1 _ _ _ _)
          rw [stage_1]
          exact (wD (p := inP b rb) hk).trans .sel
        · have hk1 : b < 0 ∨ (0 ≤ b ∧ max rb 0 < b) := by unfold inP at hk;omega
          have hn : ¬ (inP b rb ∧ inP c rc ∧ inP d rd) := fun h => hk h.1
          rcases hk1 with hk1 | ⟨hk1,hk2⟩
          · repeat (first|(first|refine zB ?_|refine zE ?_|refine zG ?_|refine zK ?_|refine zL rfl ?_|refine zV ?_)|(first|((first|refine zA rfl ?_);first|refine JOq (yH rfl rfl (by omega)) rfl ?_|refine JOq (yQ rfl) rfl ?_|refine zD rfl rfl ?_|refine zC rfl rfl ?_|refine zH rfl rfl ?_|refine yA rfl rfl rfl ?_|refine zW rfl rfl (by first | rfl | assumption) rfl ?_)|refine yU rfl rfl rfl ?_))
            exact ⟨(),rfl,(wD hn).trans .sel⟩
          · repeat (first|(first|refine zB ?_|refine zE ?_|refine zG ?_|refine zK ?_|refine zL rfl ?_|refine zV ?_)|(first|((first|refine zA rfl ?_|refine zZ rfl rfl ?_);first|refine JOq (yS rfl rfl (by omega)) rfl ?_|refine JOq (JQ_gtrT rfl rfl (by omega)) rfl ?_|refine JOq (yQ rfl) rfl ?_|refine JO_max rfl rfl rfl ?_|refine zD rfl rfl ?_|refine zC rfl rfl ?_|refine zH rfl rfl ?_|refine yJ rfl rfl rfl ?_|refine zW rfl rfl (by first | rfl | assumption) rfl ?_)))
            exact ⟨(),rfl,(wD hn).trans .sel⟩
      | 1,hq =>
        obtain rfl : [pf n3 3,Value.int .i64 rc] = q := Option.some.inj hq
        dsimp only
        rw [stage_1]
        refine J_say fact_out (fun hf => ?_)
        by_cases hk : inP c rc
        · obtain ⟨hk1,hk2⟩ : 0 ≤ c ∧ c ≤ max rc 0 := by unfold inP at hk;exact hk
          repeat (first|(first|refine zB ?_|refine zE ?_|refine zG ?_|refine zK ?_|refine zP ?_|refine zJ rfl ?_)|(first|((first|refine zA rfl ?_|refine zZ rfl rfl ?_);first|refine JOq (yS rfl rfl (by omega)) rfl ?_|refine JOq (JQ_gtrF rfl rfl (by omega)) rfl ?_|refine JOq (yQ rfl) rfl ?_|refine JO_max rfl rfl rfl ?_|refine zD rfl rfl ?_|refine zC rfl rfl ?_|refine zH rfl rfl ?_|refine yJ rfl rfl rfl ?_)))
          refine ⟨(),?_⟩
          show Ent _ (_ :: stage 2 _ _ _ _)
          rw [stage_2]
          exact (wD (p := inP b rb ∧ inP c rc) ⟨hf,hk⟩).trans .sel
        · have hk1 : c < 0 ∨ (0 ≤ c ∧ max rc 0 < c) := by unfold inP at hk;omega
          have hn : ¬ (inP b rb ∧ inP c rc ∧ inP d rd) := fun h => hk h.2.1
          rcases hk1 with hk1 | ⟨hk1,hk2⟩
          · repeat (first|(first|refine zB ?_|refine zE ?_|refine zG ?_|refine zK ?_|refine zL rfl ?_|refine zV ?_)|(first|((first|refine zA rfl ?_);first|refine JOq (yH rfl rfl (by omega)) rfl ?_|refine JOq (yQ rfl) rfl ?_|refine zD rfl rfl ?_|refine zC rfl rfl ?_|refine zH rfl rfl ?_|refine yA rfl rfl rfl ?_|refine zW rfl rfl (by first | rfl | assumption) rfl ?_)|refine yU rfl rfl rfl ?_))
            exact ⟨(),rfl,(wD hn).trans .sel⟩
          · repeat (first|(first|refine zB ?_|refine zE ?_|refine zG ?_|refine zK ?_|refine zL rfl ?_|refine zV ?_)|(first|((first|refine zA rfl ?_|refine zZ rfl rfl ?_);first|refine JOq (yS rfl rfl (by omega)) rfl ?_|refine JOq (JQ_gtrT rfl rfl (by omega)) rfl ?_|refine JOq (yQ rfl) rfl ?_|refine JO_max rfl rfl rfl ?_|refine zD rfl rfl ?_|refine zC rfl rfl ?_|refine zH rfl rfl ?_|refine yJ rfl rfl rfl ?_|refine zW rfl rfl (by first | rfl | assumption) rfl ?_)))
            exact ⟨(),rfl,(wD hn).trans .sel⟩
      | 2,hq =>
        obtain rfl : [pf n3 4,Value.int .i64 rd] = q := Option.some.inj hq
        dsimp only
        rw [stage_2]
        refine J_say fact_out (fun hf => ?_)
        by_cases hk : inP d rd
        · obtain ⟨hk1,hk2⟩ : 0 ≤ d ∧ d ≤ max rd 0 := by unfold inP at hk;exact hk
          repeat (first|(first|refine zB ?_|refine zE ?_|refine zG ?_|refine zK ?_|refine zP ?_|refine zJ rfl ?_)|(first|((first|refine zA rfl ?_|refine zZ rfl rfl ?_);first|refine JOq (yS rfl rfl (by omega)) rfl ?_|refine JOq (JQ_gtrF rfl rfl (by omega)) rfl ?_|refine JOq (yQ rfl) rfl ?_|refine JO_max rfl rfl rfl ?_|refine zD rfl rfl ?_|refine zC rfl rfl ?_|refine zH rfl rfl ?_|refine yJ rfl rfl rfl ?_)))
          refine ⟨(),?_⟩
          show Ent _ (_ :: stage 3 _ _ _ _)
          rw [stage_3]
          exact (wD (p := inP b rb ∧ inP c rc ∧ inP d rd) ⟨hf.1,hf.2,hk⟩).trans .sel
        · have hk1 : d < 0 ∨ (0 ≤ d ∧ max rd 0 < d) := by unfold inP at hk;omega
          have hn : ¬ (inP b rb ∧ inP c rc ∧ inP d rd) := fun h => hk h.2.2
          rcases hk1 with hk1 | ⟨hk1,hk2⟩
          · repeat (first|(first|refine zB ?_|refine zE ?_|refine zG ?_|refine zK ?_|refine zL rfl ?_|refine zV ?_)|(first|((first|refine zA rfl ?_);first|refine JOq (yH rfl rfl (by omega)) rfl ?_|refine JOq (yQ rfl) rfl ?_|refine zD rfl rfl ?_|refine zC rfl rfl ?_|refine zH rfl rfl ?_|refine yA rfl rfl rfl ?_|refine zW rfl rfl (by first | rfl | assumption) rfl ?_)|refine yU rfl rfl rfl ?_))
            exact ⟨(),rfl,(wD hn).trans .sel⟩
          · repeat (first|(first|refine zB ?_|refine zE ?_|refine zG ?_|refine zK ?_|refine zL rfl ?_|refine zV ?_)|(first|((first|refine zA rfl ?_|refine zZ rfl rfl ?_);first|refine JOq (yS rfl rfl (by omega)) rfl ?_|refine JOq (JQ_gtrT rfl rfl (by omega)) rfl ?_|refine JOq (yQ rfl) rfl ?_|refine JO_max rfl rfl rfl ?_|refine zD rfl rfl ?_|refine zC rfl rfl ?_|refine zH rfl rfl ?_|refine yJ rfl rfl rfl ?_|refine zW rfl rfl (by first | rfl | assumption) rfl ?_)))
            exact ⟨(),rfl,(wD hn).trans .sel⟩
      | k + 3,hq => simp [smallV] at hq
  · intro rr s
    rw [show (smallV n3 ⟨wh,rb,rc,rd,rl,least,most,un⟩).length = 3 from rfl,stage_3]
    refine wE (fun _ _ hs => hs.tail.tail.out fact_out) (fun h3 => ?_)
    repeat (first|(first|refine zB ?_|refine zG ?_)|(first|((first|refine zA rfl ?_);first|refine zD rfl rfl ?_|refine zF rfl rfl ?_|refine zH rfl rfl ?_|refine xD rfl rfl ?_)))
    refine JL_cut [(7,.bool (bP PP)),(2,ptr n2),(3,ptr n3),(4,ptr n4)] [pt rr (.deferred (some [])),pt n2 (.cells #[.bool wh,.int .i64 rb,.int .i64 rc,.int .i64 rd,.int .i64 rl,.int .i64 (least : Int),.int .i64 (most : Int),.bool un] 252 (0,0)),pt n3 (.cells #[.int .i64 op,.int .i64 a,.int .i64 b,.int .i64 c,.int .i64 d,.slice p l.length cap] 52 (0,0)),pt n4 (.cells #[.bool false] 4 (0,0)),Vw 1 (.slice p l.length cap) l.length (ints l)] ?_ ?_
    · cases un with
      | false =>
        repeat (first|(first|refine zE ?_)|(first|((first|refine zA rfl ?_);first|refine zD rfl rfl ?_|refine zC rfl rfl ?_|refine yA rfl rfl rfl ?_)|refine yU rfl rfl rfl ?_))
        exact ⟨sub_bool rfl (bP_t (hpair.2 (.inl rfl))) (by (repeat (first|exact zM _|refine zI rfl ?_))),rfl,Ent.sel⟩
      | true =>
        by_cases h1 : rc = -1
        · repeat (first|(first|refine zE ?_)|(first|((first|refine zA rfl ?_|refine zZ rfl rfl ?_);first|refine JOq (yT rfl rfl (by omega)) rfl ?_|refine zD rfl rfl ?_|refine zC rfl rfl ?_|refine zF rfl rfl ?_|refine zH rfl rfl ?_|refine yA rfl rfl rfl ?_|refine yJ rfl rfl rfl ?_)|refine yU rfl rfl rfl ?_))
          exact ⟨sub_bool rfl (bP_t (hpair.2 (.inr (.inl h1)))) (by (repeat (first|exact zM _|refine zI rfl ?_))),rfl,Ent.sel⟩
        · by_cases h2 : b = c
          · repeat (first|(first|refine zE ?_)|(first|((first|refine zA rfl ?_|refine zZ rfl rfl ?_);first|refine JOq (yL rfl rfl (by omega)) rfl ?_|refine JOq (vW rfl rfl (by omega)) rfl ?_|refine zD rfl rfl ?_|refine zC rfl rfl ?_|refine zF rfl rfl ?_|refine zH rfl rfl ?_|refine yJ rfl rfl rfl ?_)))
            exact ⟨sub_bool rfl (bP_f (fun h => (hpair.1 h).elim (fun h => by cases h) (fun h => h.elim h1 (fun h => h h2)))) (by (repeat (first|exact zM _|refine zI rfl ?_))),rfl,Ent.sel⟩
          · repeat (first|(first|refine zE ?_)|(first|((first|refine zA rfl ?_|refine zZ rfl rfl ?_);first|refine JOq (yL rfl rfl (by omega)) rfl ?_|refine JOq (vS rfl rfl (by omega)) rfl ?_|refine zD rfl rfl ?_|refine zC rfl rfl ?_|refine zF rfl rfl ?_|refine zH rfl rfl ?_|refine yJ rfl rfl rfl ?_)))
            exact ⟨sub_bool rfl (bP_t (hpair.2 (.inr (.inr h2)))) (by (repeat (first|exact zM _|refine zI rfl ?_))),rfl,Ent.sel⟩
    dsimp only [thn]
    repeat (first|(first|refine zB ?_|refine zE ?_|refine zG ?_|refine zK ?_|refine J_label ?_)|(first|((first|refine zA rfl ?_);first|refine zD rfl rfl ?_|refine yF rfl rfl ?_|refine zF rfl rfl ?_|refine zH rfl rfl ?_)))
    refine J_inX (α := Unit) (fun _ => [(7,.bool (bP (PP ∧ okL un rl l))),(2,ptr n2),(3,ptr n3),(4,ptr n4)]) (fun _ => [pt rr (.deferred (some [])),pt n2 (.cells #[.bool wh,.int .i64 rb,.int .i64 rc,.int .i64 rd,.int .i64 rl,.int .i64 (least : Int),.int .i64 (most : Int),.bool un] 252 (0,0)),pt n3 (.cells #[.int .i64 op,.int .i64 a,.int .i64 b,.int .i64 c,.int .i64 d,.slice p l.length cap] 52 (0,0)),pt n4 (.cells #[.bool false] 4 (0,0)),Vw 1 (.slice p l.length cap) l.length (ints l)]) ?_ ?_
    · refine xU (β := { i : Nat // i ≤ l.length ∧ ∀ j,j < i → okAt un rl l j }) (fun i => [(7,.bool (bP PP)),(2,ptr n2),(3,ptr n3),(4,ptr n4),(68,.slice p l.length cap),(69,.int .i64 (l.length : Int)),(70,.int .i64 (i.1 : Int))]) (fun _ => [collected rr]) (fun _ => [pt rr (.deferred (some [])),pt n2 (.cells #[.bool wh,.int .i64 rb,.int .i64 rc,.int .i64 rd,.int .i64 rl,.int .i64 (least : Int),.int .i64 (most : Int),.bool un] 252 (0,0)),pt n3 (.cells #[.int .i64 op,.int .i64 a,.int .i64 b,.int .i64 c,.int .i64 d,.slice p l.length cap] 52 (0,0)),pt n4 (.cells #[.bool false] 4 (0,0)),Vw 1 (.slice p l.length cap) l.length (ints l)]) (fun i => l.length - i.1) ⟨0,by omega,fun j h => absurd h (by omega)⟩ ?_ rfl Ent.sel ?_
      · (repeat (first|exact zM _|refine zI rfl ?_))
      rintro ⟨i,hi,hpre⟩
      dsimp only
      by_cases hil : i < l.length
      · obtain ⟨n,hn⟩ : ∃ n,l[i]? = some n := ⟨_,List.getElem?_eq_getElem hil⟩
        repeat (first|(first|refine zB ?_|refine zE ?_|refine zG ?_|refine zK ?_|refine zP ?_|refine zL rfl ?_)|(first|((first|refine zA rfl ?_);first|refine JOq (yH rfl rfl (by omega)) rfl ?_|refine JO_indexV1 (cs := ints l) rfl rfl hil _ (ints_get hn) rfl fun b1 o1 hl1 => ?_|refine wU rfl hl1 rfl ?_|refine JO_front (j := i) rfl rfl (by omega) rfl ?_|refine zD rfl rfl ?_|refine zC rfl rfl ?_|refine yF rfl rfl ?_|refine zF rfl rfl ?_|refine zH rfl rfl ?_)))
        refine xQ (L' := [Vw 1 (.slice p i cap) i ((ints l).take (i * 1)),pt rr (.deferred (some [])),pt n2 (.cells #[.bool wh,.int .i64 rb,.int .i64 rc,.int .i64 rd,.int .i64 rl,.int .i64 (least : Int),.int .i64 (most : Int),.bool un] 252 (0,0)),pt n3 (.cells #[.int .i64 op,.int .i64 a,.int .i64 b,.int .i64 c,.int .i64 d,.slice p l.length cap] 52 (0,0)),pt n4 (.cells #[.bool false] 4 (0,0)),Vw 1 (.slice p l.length cap) l.length (ints l)]) (((Ent.dup (Vw 1 (.slice p l.length cap) l.length (ints l))).trans (fun F w hs => (hs.swap.conv fun k hk => vw_take (m := i) (by omega) k hk).swap)).trans Ent.sel) ?_
        refine J_inX (α := { _u : Unit // un = true → ∀ j,j < i → l[j]? ≠ some n }) (fun _ => [(7,.bool (bP PP)),(2,ptr n2),(3,ptr n3),(4,ptr n4),(9,.int .i64 n),(68,.slice p l.length cap),(69,.int .i64 (l.length : Int)),(70,.int .i64 (i : Int))]) (fun _ => [pt rr (.deferred (some [])),pt n2 (.cells #[.bool wh,.int .i64 rb,.int .i64 rc,.int .i64 rd,.int .i64 rl,.int .i64 (least : Int),.int .i64 (most : Int),.bool un] 252 (0,0)),pt n3 (.cells #[.int .i64 op,.int .i64 a,.int .i64 b,.int .i64 c,.int .i64 d,.slice p l.length cap] 52 (0,0)),pt n4 (.cells #[.bool false] 4 (0,0)),Vw 1 (.slice p l.length cap) l.length (ints l)]) ?_ ?_
        · refine xU (β := { k : Nat // k ≤ i ∧ (un = true → ∀ j,j < k → l[j]? ≠ some n) }) (fun k => [(7,.bool (bP PP)),(2,ptr n2),(3,ptr n3),(4,ptr n4),(9,.int .i64 n),(68,.slice p l.length cap),(69,.int .i64 (l.length : Int)),(70,.int .i64 (i : Int)),(78,.slice p i cap),(79,.int .i64 (i : Int)),(80,.int .i64 (k.1 : Int))]) (fun _ => [collected rr]) (fun _ => [Vw 1 (.slice p i cap) i ((ints l).take (i * 1)),pt rr (.deferred (some [])),pt n2 (.cells #[.bool wh,.int .i64 rb,.int .i64 rc,.int .i64 rd,.int .i64 rl,.int .i64 (least : Int),.int .i64 (most : Int),.bool un] 252 (0,0)),pt n3 (.cells #[.int .i64 op,.int .i64 a,.int .i64 b,.int .i64 c,.int .i64 d,.slice p l.length cap] 52 (0,0)),pt n4 (.cells #[.bool false] 4 (0,0)),Vw 1 (.slice p l.length cap) l.length (ints l)]) (fun k => i - k.1) ⟨0,by omega,fun _ j h => absurd h (by omega)⟩ ?_ rfl Ent.sel ?_
          · (repeat (first|exact zM _|refine zI rfl ?_))
          rintro ⟨k,hk,hkp⟩
          dsimp only
          by_cases hki : k < i
          · obtain ⟨u,hu⟩ : ∃ u,l[k]? = some u := ⟨_,List.getElem?_eq_getElem (by omega)⟩
            have hu2 : ((ints l).take (i * 1))[k]? = some (.int .i64 u) := by rw [List.getElem?_take,if_pos (by omega)];exact ints_get hu
            have hnext : ¬ (un = true ∧ u = n) → un = true → ∀ j,j < k + 1 → l[j]? ≠ some n := fun h1 h2 j hj => by
              by_cases hjk : j = k
              · subst hjk
                rw [hu]
                intro h3
                exact h1 ⟨h2,Option.some.inj h3⟩
              · exact hkp h2 j (by omega)
            cases un with
            | false =>
              repeat (first|(first|refine zB ?_|refine zE ?_|refine zG ?_|refine zK ?_|refine zP ?_|refine zL rfl ?_|refine zJ rfl ?_)|(first|((first|refine zA rfl ?_);first|refine JOq (yH rfl rfl (by omega)) rfl ?_|refine JO_indexV1 (cs := (ints l).take (i * 1)) rfl rfl hki _ hu2 rfl fun b2 o2 hl2 => ?_|refine wU rfl hl2 rfl ?_|refine yZ (b := 1) rfl rfl (by omega) rfl ?_|refine zD rfl rfl ?_|refine zC rfl rfl ?_|refine zF rfl rfl ?_|refine zH rfl rfl ?_|refine yJ rfl rfl rfl ?_)|refine yU rfl rfl rfl ?_))
              exact ⟨⟨k + 1,by omega,fun h => by cases h⟩,by simp only;omega,by (repeat (first|exact zM _|refine zI rfl ?_)),rfl,Ent.sel⟩
            | true =>
              by_cases hun : u = n
              · subst hun
                repeat (first|(first|refine zB ?_|refine zE ?_|refine zG ?_|refine zK ?_|refine zP ?_|refine zL rfl ?_|refine xA ?_)|(first|((first|refine zA rfl ?_|refine zZ rfl rfl ?_);first|refine JOq (yH rfl rfl (by omega)) rfl ?_|refine JOq (yT rfl rfl (by omega)) rfl ?_|refine JO_indexV1 (cs := (ints l).take (i * 1)) rfl rfl hki _ hu2 rfl fun b2 o2 hl2 => ?_|refine wU rfl hl2 rfl ?_|refine zD rfl rfl ?_|refine zC rfl rfl ?_|refine zF rfl rfl ?_|refine zH rfl rfl ?_|refine yA rfl rfl rfl ?_)))
                exact ⟨(),sub_bool rfl (bP_f (fun h => okAt_twice (okL_at h.2 hil) hn hki hu)) (by (repeat (first|exact zM _|refine zI rfl ?_))),rfl,Ent.sel⟩
              · repeat (first|(first|refine zB ?_|refine zE ?_|refine zG ?_|refine zK ?_|refine zP ?_|refine zL rfl ?_|refine zJ rfl ?_)|(first|((first|refine zA rfl ?_|refine zZ rfl rfl ?_);first|refine JOq (yH rfl rfl (by omega)) rfl ?_|refine JOq (yL rfl rfl (by omega)) rfl ?_|refine JO_indexV1 (cs := (ints l).take (i * 1)) rfl rfl hki _ hu2 rfl fun b2 o2 hl2 => ?_|refine wU rfl hl2 rfl ?_|refine yZ (b := 1) rfl rfl (by omega) rfl ?_|refine zD rfl rfl ?_|refine zC rfl rfl ?_|refine zF rfl rfl ?_|refine zH rfl rfl ?_|refine yA rfl rfl rfl ?_)))
                exact ⟨⟨k + 1,by omega,hnext (fun h => hun h.2)⟩,by simp only;omega,by (repeat (first|exact zM _|refine zI rfl ?_)),rfl,Ent.sel⟩
          · obtain rfl : k = i := by omega
            repeat (first|(first|refine zB ?_|refine zE ?_|refine zG ?_|refine zJ rfl ?_|refine xA ?_)|(first|((first|refine zA rfl ?_);first|refine JOq (yS rfl rfl (by omega)) rfl ?_)))
            exact ⟨⟨(),hkp⟩,by (repeat (first|exact zM _|refine zI rfl ?_)),rfl,Ent.sel⟩
        · rintro ⟨_,hkp⟩
          dsimp only [thn]
          by_cases h1 : n < 0
          · repeat (first|(first|refine zB ?_|refine zE ?_|refine zG ?_|refine zL rfl ?_|refine xA ?_)|(first|((first|refine zA rfl ?_);first|refine JOq (yH rfl rfl (by omega)) rfl ?_|refine zD rfl rfl ?_|refine zC rfl rfl ?_|refine yA rfl rfl rfl ?_)|refine yU rfl rfl rfl ?_))
            exact ⟨(),sub_bool rfl (bP_f (fun h => okAt_out (okL_at h.2 hil) hn (.inl h1))) (by (repeat (first|exact zM _|refine zI rfl ?_))),rfl,Ent.sel⟩
          · by_cases h2 : n ≤ rl
            · repeat (first|(first|refine zB ?_|refine zE ?_|refine zG ?_|refine zP ?_|refine zJ rfl ?_)|(first|((first|refine zA rfl ?_|refine zZ rfl rfl ?_);first|refine JOq (yS rfl rfl (by omega)) rfl ?_|refine JOq (JQ_gtrF rfl rfl (by omega)) rfl ?_|refine yZ (b := 1) rfl rfl (by omega) rfl ?_|refine zD rfl rfl ?_|refine zF rfl rfl ?_|refine zH rfl rfl ?_|refine yJ rfl rfl rfl ?_)))
              refine ⟨⟨i + 1,by omega,fun j hj => ?_⟩,by simp only;omega,by (repeat (first|exact zM _|refine zI rfl ?_)),rfl,Ent.sel⟩
              by_cases hji : j = i
              · subst hji
                exact okAt_in hn hkp (by omega) h2
              · exact hpre j (by omega)
            · repeat (first|(first|refine zB ?_|refine zE ?_|refine zG ?_|refine zL rfl ?_|refine xA ?_)|(first|((first|refine zA rfl ?_|refine zZ rfl rfl ?_);first|refine JOq (yS rfl rfl (by omega)) rfl ?_|refine JOq (JQ_gtrT rfl rfl (by omega)) rfl ?_|refine zD rfl rfl ?_|refine zC rfl rfl ?_|refine zF rfl rfl ?_|refine zH rfl rfl ?_|refine yJ rfl rfl rfl ?_)))
              exact ⟨(),sub_bool rfl (bP_f (fun h => okAt_out (okL_at h.2 hil) hn (.inr (by omega)))) (by (repeat (first|exact zM _|refine zI rfl ?_))),rfl,Ent.sel⟩
      · obtain rfl : i = l.length := by omega
        repeat (first|(first|refine zB ?_|refine zE ?_|refine zG ?_|refine zJ rfl ?_|refine xA ?_)|(first|((first|refine zA rfl ?_);first|refine JOq (yS rfl rfl (by omega)) rfl ?_)))
        exact ⟨(),sub_bool rfl (bP_same ⟨fun h => ⟨h,okL_of hpre⟩,fun h => h.1⟩) (by (repeat (first|exact zM _|refine zI rfl ?_))),rfl,Ent.sel⟩
    · intro _
      rw [show bP FP = bP (PP ∧ okL un rl l) from bP_same ⟨fun h => ⟨(hfit.1 h).2.2.1,(hfit.1 h).2.2.2⟩,fun h => hfit.2 ⟨hd1,h3,h.1,h.2⟩⟩]
      repeat (first|(first|refine zB ?_|refine zE ?_|refine zG ?_|refine zV ?_)|(first|((first|refine zA rfl ?_);first|refine zD rfl rfl ?_|refine zW rfl rfl (by first | rfl | assumption) rfl ?_)))
      exact endM_1V rfl rfl rfl Ent.nil
  · intro rr s
    refine wE (fun _ _ hs => hs.tail.tail.out fact_out) (fun hz => ?_)
    rw [show bP FP = false from (bP_f (fun h => hz (hfit.1 h).2.1)).symm]
    refine zV ?_
    exact endM_1V rfl rfl rfl Ent.nil
end Go.Proofs.YtickblndgihoeaaGreatDoor
