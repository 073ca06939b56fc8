/- Layer 11: reading rows of things. -/
import Derived.Test.YtickblndgihoeaaGreatDoorM22
set_option linter.unusedSimpArgs false
namespace Go.Proofs.YtickblndgihoeaaGreatDoor
open Go Go.Sp
def vB {α : Type} (rd : Rdr α) : Nat → Rdr (List α × List Int)
  | 0 => fun bs pl => .ok ([],[]) bs pl
  | n + 1 => fun bs pl => (rd bs pl).bind fun x bs1 pl1 => (vB rd n bs1 pl1).bind fun z bs2 pl2 => .ok (x :: z.1,pl :: z.2) bs2 pl2
def preR {α : Type} (xs : List α) (ps : List Int) (m : RO (List α × List Int)) : RO (List α × List Int) := m.bind fun z bs pl => .ok (xs ++ z.1,ps ++ z.2) bs pl
theorem preR_nil {α : Type} (m : RO (List α × List Int)) : preR [] [] m = m := by cases m <;> rfl
theorem preR_ok {α : Type} {rd : Rdr α} {k : Nat} {bs bs1 : List UInt8} {pl pl1 : Int} {x : α} (h : rd bs pl = .ok x bs1 pl1) (xs : List α) (ps : List Int) : preR xs ps (vB rd (k + 1) bs pl) = preR (xs ++ [x]) (ps ++ [pl]) (vB rd k bs1 pl1) := by
  show preR xs ps ((rd bs pl).bind _) = _
  rw [h,bind_ok]
  cases vB rd k bs1 pl1 with
  | bad c a => rfl
  | ok z bs2 pl2 => simp [preR]
theorem preR_bad {α : Type} {rd : Rdr α} {k : Nat} {bs : List UInt8} {pl c a : Int} (h : rd bs pl = .bad c a) (xs : List α) (ps : List Int) : preR xs ps (vB rd (k + 1) bs pl) = .bad c a := by
  show preR xs ps ((rd bs pl).bind _) = _
  rw [h]
  rfl
theorem good_many {α : Type} {rd : Rdr α} (h : GoodR rd) : ∀ n,GoodR (vB rd n)
  | 0 => GoodR.pure
  | n + 1 => fun bs pl z bs2 pl2 hz => by
    have hz : (rd bs pl).bind (fun x bs1 pl1 => (vB rd n bs1 pl1).bind fun z bs2 pl2 => .ok (x :: z.1,pl :: z.2) bs2 pl2) = .ok z bs2 pl2 := hz
    cases h1 : rd bs pl with
    | bad c a => rw [h1] at hz;cases hz
    | ok x bs1 pl1 =>
      rw [h1,bind_ok] at hz
      cases h2 : vB rd n bs1 pl1 with
      | bad c a => rw [h2] at hz;cases hz
      | ok z1 bs3 pl3 =>
        rw [h2] at hz
        cases hz
        have := h _ _ _ _ _ h1
        have := good_many h n _ _ _ _ _ h2
        omega
def vR {α : Type} (least most : Int) (rd : Rdr α) : Rdr (List α × List Int) := fun bs pl => (uM most bs pl).bind fun n bs1 pl1 => if (n : Int) < least then .bad 2 pl else vB rd n bs1 pl1
theorem good_sev {α : Type} {least most : Int} {rd : Rdr α} (h : GoodR rd) : GoodR (vR least most rd) := fun bs pl z bs2 pl2 hz => by
  unfold vR at hz
  cases h1 : uM most bs pl with
  | bad c a => rw [h1] at hz;cases hz
  | ok n bs1 pl1 =>
    rw [h1,bind_ok] at hz
    split at hz
    · cases hz
    · have := uN _ _ _ _ _ _ h1
      have := good_many h n _ _ _ _ _ hz
      omega
structure SevY (β : Type) where
  ys : List β
  a1 : SA
  at_ : List Int
  a2 : SA
abbrev sevE {α β : Type} (er : β → α) (y : SevY β) : List α × List Int := (y.ys.map er,y.at_)
abbrev sevV {β : Type} (y : SevY β) : Value := .tuple #[slc y.a1 y.ys.length,slc y.a2 y.at_.length]
def SevR {β : Type} (sz : Nat) (c : β → List Value) (R : β → HP) (y : SevY β) : HP := fun k => (y.ys.length ≤ y.a1.2 ∧ y.at_.length ≤ y.a2.2) ∧ Vw sz (slc y.a1 y.ys.length) y.ys.length (y.ys.flatMap c) k ∧ yB R y.ys k ∧ Vw 1 (slc y.a2 y.at_.length) y.at_.length (ints y.at_) k
theorem up_all {β : Type} {R : β → HP} (h : ∀ y,Up (R y)) (ys : List β) : Up (yB R ys) := fun k k' hl hk y hy => h y k k' hl (hk y hy)
theorem all_nil {β : Type} {R : β → HP} {L : List HP} : Ent L (yB R [] :: L) := Ent.cons fun w M h => h.add (fun y hy => by cases hy)
theorem all_snoc {β : Type} {R : β → HP} (h : ∀ y,Up (R y)) {ys : List β} {y : β} {L : List HP} : Ent (yB R ys :: R y :: L) (yB R (ys ++ [y]) :: L) := fun F w hs => by
  refine (Sat.join (M := [yB R ys,R y]) (L := F :: L) (hs.perm ((List.Perm.swap _ _ _).trans (List.Perm.cons _ (List.Perm.swap _ _ _)))) fun k hk => ?_).swap
  obtain ⟨h1,h2⟩ := star_two (up_all h ys) (h y) hk
  intro z hz
  rw [List.mem_append,List.mem_singleton] at hz
  rcases hz with hz | rfl
  · exact h1 z hz
  · exact h2
theorem star_up {h : Part} : ∀ {L : List HP},(∀ A ∈ L,Up A) → Star L h → ∀ A ∈ L,A h
  | [],_,_,A,hA => by cases hA
  | B :: L,hu,⟨h1,h2,hc,l1,l2,hB,hL⟩,A,hA => by
    rcases List.mem_cons.1 hA with rfl | hA
    · exact hu A (by simp) _ _ l1 hB
    · exact hu A (by simp [hA]) _ _ l2 (star_up (fun C hC => hu C (by simp [hC])) hL A hA)
theorem ent_conj {A : HP} {M L : List HP} (hu : ∀ B ∈ M,Up B) (h : ∀ k,(∀ B ∈ M,B k) → A k) : Ent (M ++ L) (A :: L) := ent_join fun k hk => h k (star_up hu hk)
theorem cat_agg1 (sz : Nat) (l : List Value) (h : l.length = sz) : Cat [.agg l.toArray] sz l := ⟨fun u hu => by
  rw [List.mem_singleton] at hu
  subst hu
  simpa [Value.cells] using h,by simp [Value.cells]⟩
theorem ints_snoc (l : List Int) (z : Int) : ints (l ++ [z]) = ints l ++ [.int .i64 z] := by simp [ints]
attribute [local irreducible] callFunc Go.method J JL JO JR JR1 JRl Ct JG JM JM1 JW JW1 JQ JQ0 JS CtD xB RdB Er by8 Gl Emp uA smA ints yB vB
section
variable {α β : Type} (c : β → List Value) (er : β → α) (R : β → HP) (rd : Rdr α) {f : FuncId} [CF Tryz.prog f] (fs cs : List Value) (A : HP)
set_option maxHeartbeats 2000000 in
theorem severalNode_c (hsz : ∀ x,(c x).length = 6) (h1 : ∀ x,∀ v ∈ c x,v.oneCell' = true) (hup : ∀ y,Up (R y)) (hgood : GoodR rd) (q : Nat) (hl : ∀ (bs : List UInt8) (pl : Int),0 ≤ pl ∧ pl + bs.length ≤ 1000000 → Ct Tryz.prog f (fs ++ [] ++ cs).toArray [RdB q bs pl,A] (RdE (rd bs pl) q er (fun y => .agg (c y).toArray) R A))
    (least most : Int) (hm : most ≤ 1000) (bs : List UInt8) (pl : Int) (hpl : 0 ≤ pl ∧ pl + bs.length ≤ 1000000) :
    Ct Tryz.prog 87 #[rdg q,.int .i64 least,.int .i64 most,.func (.func f) fs.toArray cs.toArray] [RdB q bs pl,A] (RdE (vR least most rd bs pl) q (sevE er) sevV (SevR 6 c R) A) := by
  have cp := place_B q bs pl
  have c1 := rnum11_c q bs pl most hpl (by omega)
  refine yE (vs := [_,_,_,_]) Tryz.func87 rfl Tryz.ntmps87 (by simp) ?_
  repeat (first|(first|refine zB ?_|refine zE ?_|refine zG ?_)|(first|((first|refine zA rfl ?_);first|refine zD rfl rfl ?_|refine zC rfl rfl ?_|refine zF rfl rfl ?_|refine zH rfl rfl ?_|refine zU rfl (by rfl) rfl ?_|refine yN rfl rfl (fun r => ?_)|refine zN rfl (cp) rfl ?_)))
  revert r
  intro r4
  refine JL_heap emp_in ?_
  refine zA rfl (wR rfl c1 rfl (fun n bs1 pl1 y g1 hy => ?_) (fun c a qf g1 => vG (by unfold vR;rw [g1];rfl)))
  obtain rfl : y = n := hy
  have p1 := uN _ _ _ _ _ _ g1
  have p2 := numR_le g1
  by_cases hle : (y : Int) < least
  · have e0 : vR least most rd bs pl = .bad 2 pl := by unfold vR;rw [g1,bind_ok,if_pos hle]
    repeat (first|(first|refine zB ?_|refine zE ?_|refine zG ?_|refine zL rfl ?_)|(first|((first|refine zA rfl ?_);first|refine JOq (yH rfl rfl (by omega)) rfl ?_|refine yG (cs := [.int .i64 2,.int .i64 pl]) rfl rfl rfl ?_|refine yG (cs := [xH _]) rfl rfl rfl ?_|refine JO_panic rfl ?_|refine zD rfl rfl ?_|refine zC rfl rfl ?_|refine yN rfl rfl (fun r => ?_)|refine vD (by simp) rfl rfl ?_)))
    exact vG e0
  have e0 : vR least most rd bs pl = vB rd y bs1 pl1 := by unfold vR;rw [g1,bind_ok,if_neg hle]
  repeat (first|(first|refine zB ?_|refine zE ?_|refine zG ?_|refine zK ?_|refine zP ?_|refine zJ rfl ?_)|(first|((first|refine zA rfl ?_);first|refine JOq (yS rfl rfl (by omega)) rfl ?_|refine zD rfl rfl ?_|refine zC rfl rfl ?_)))
  refine xQ (all_nil (R := R)) ?_
  refine xQ (own0 (e := 58) (sz := 6)) ?_
  refine xQ (uZ (e := 3)) ?_
  refine xU (β := { z : Nat × (List β × Value) × (List Int × Value) × List UInt8 × Int // z.1 ≤ y ∧ z.2.1.1.length = z.1 ∧ z.2.2.1.1.length = z.1 ∧ z.2.1.2.oneCell' = true ∧ z.2.2.1.2.oneCell' = true ∧ (0 ≤ z.2.2.2.2 ∧ z.2.2.2.2 + z.2.2.2.1.length ≤ 1000000) ∧ vB rd y bs1 pl1 = preR (z.2.1.1.map er) z.2.2.1.1 (vB rd (y - z.1) z.2.2.2.1 z.2.2.2.2) }) (fun z => [(4,ptr r4),(3,.func (.func f) fs.toArray cs.toArray),(8,z.1.2.1.2),(9,z.1.2.2.1.2),(27,.int .i64 (y : Int)),(28,.int .i64 (z.1.1 : Int))]) (fun _ => []) (fun z => [yC 58 6 z.1.2.1.2 z.1.2.1.1.length (z.1.2.1.1.flatMap c),yB R z.1.2.1.1,yC 3 1 z.1.2.2.1.2 z.1.2.2.1.1.length (ints z.1.2.2.1.1),RdB q z.1.2.2.2.1 z.1.2.2.2.2,A,pt r4 (.cells #[ptr q] 159 (0,0))]) (fun z => y - z.1.1) ⟨(0,([],.slice none 0 0),([],.slice none 0 0),bs1,pl1),by simp,rfl,rfl,rfl,rfl,by simp only;omega,by simp [preR_nil]⟩ ?_ rfl ?_ ?_
  · (repeat (first|exact zM _|refine zI rfl ?_))
  · simp only [List.flatMap_nil,List.length_nil]
    exact Ent.sel
  rintro ⟨⟨i,⟨ys,v1⟩,⟨ps,v2⟩,b,p⟩,k1,k2,k3,k4,k5,k6,k7⟩
  dsimp only at k1 k2 k3 k4 k5 k6 k7 ⊢
  by_cases hi : i < y
  · obtain ⟨k,hk⟩ : ∃ k,y - i = k + 1 := ⟨y - i - 1,by omega⟩
    rw [hk] at k7
    have cp := place_B q b p
    have cl := hl b p k6
    repeat (first|(first|refine zB ?_|refine zE ?_|refine zG ?_|refine zK ?_|refine zP ?_|refine zL rfl ?_)|(first|((first|refine zA rfl ?_);first|refine JOq (yH rfl rfl (by omega)) rfl ?_|refine zD rfl rfl ?_|refine zF rfl rfl ?_|refine zH rfl rfl ?_|refine yP rfl rfl rfl (by decide) rfl (fun r => ?_)|refine zN rfl (cp) rfl ?_)))
    refine zA rfl (wM (sz := 1) (n := ps.length) (m := 1) (news := [.int .i64 p]) rfl rfl wL rfl (by decide) rfl (by simp [Value.oneCell']) (Nat.le_trans (Nat.mul_le_mul_right _ (show ps.length + 1 ≤ 1001 by omega)) (by decide)) (by decide) rfl fun v2' hv2' => ?_)
    repeat (first|(first|refine zB ?_|refine zE ?_)|(first|((first|refine zA rfl ?_);first|refine zD rfl rfl ?_|refine zC rfl rfl ?_)))
    refine zA rfl (JO_callCR rfl rfl cl rfl (fun x bs2 pl2 z g2 hz => ?_) (fun c a qf g2 => vG (by rw [e0,k7];exact preR_bad g2 _ _)))
    have p3 := hgood _ _ _ _ _ g2
    refine zA rfl (yP (n := 6) (vs := [.agg (c z).toArray]) (cs := c z) rfl rfl (hc := cat_agg1 6 (c z) (hsz z)) rfl (by decide) rfl (fun r9 => ?_))
    refine zA rfl (wM (sz := 6) (n := ys.length) (m := 1) (news := c z) rfl rfl wL rfl (by decide) (by rw [hsz]) (h1 z) (Nat.le_trans (Nat.mul_le_mul_right _ (show ys.length + 1 ≤ 1001 by omega)) (by decide)) (by decide) rfl fun v1' hv1' => ?_)
    repeat (first|(first|refine zB ?_|refine zE ?_)|(first|((first|refine zA rfl ?_);first|refine yZ (b := 1) rfl rfl (by omega) rfl ?_|refine zD rfl rfl ?_|refine zC rfl rfl ?_)))
    refine ⟨⟨(i + 1,(ys ++ [z],v1'),(ps ++ [p],v2'),bs2,pl2),by simp only;omega,by simp only [List.length_append,List.length_singleton];omega,by simp only [List.length_append,List.length_singleton];omega,hv1',hv2',by simp only;omega,?_⟩,by simp only;omega,by (repeat (first|exact zM _|refine zI rfl ?_)),rfl,?_⟩
    · simp only
      rw [k7,preR_ok g2,List.map_append,List.map_singleton,hz,show y - (i + 1) = k by omega]
    · simp only [List.flatMap_append,List.flatMap_singleton,List.length_append,List.length_singleton,ints_snoc]
      exact (Ent.sel (K := [yB R ys,R z,yC 58 6 v1' (ys.length + 1) (ys.flatMap c ++ c z),yC 3 1 v2' (ps.length + 1) (ints ps ++ [.int .i64 p]),RdB q bs2 pl2,A,pt r4 (.cells #[ptr q] 159 (0,0))])).trans ((all_snoc hup).trans Ent.sel)
  obtain rfl : i = y := by omega
  rw [Nat.sub_self] at k7
  have k8 : vB rd i bs1 pl1 = .ok (ys.map er,ps) b p := by rw [k7];unfold vB;simp [preR]
  refine wQ (yC 3 1 v2 ps.length (ints ps)) ?_
  refine uU (fun p2 cap2 hv2 hc2 => ?_)
  subst hv2
  refine wQ (yC 58 6 v1 ys.length (ys.flatMap c)) ?_
  refine uU (fun p1 cap1 hv1 hc1 => ?_)
  subst hv1
  repeat (first|(first|refine zB ?_|refine zE ?_|refine zG ?_|refine zJ rfl ?_|refine xA ?_|refine zV ?_)|(first|((first|refine zA rfl ?_);first|refine JOq (yS rfl rfl (by omega)) rfl ?_|refine zD rfl rfl ?_|refine zC rfl rfl ?_)))
  refine tN (res_two rfl rfl rfl) (e0.trans k8) ⟨ys,(p1,cap1),ps,(p2,cap2)⟩ rfl rfl ?_
  exact (Ent.sel (K := [Vw 6 (.slice p1 ys.length cap1) ys.length (ys.flatMap c),yB R ys,Vw 1 (.slice p2 ps.length cap2) ps.length (ints ps),RdB q b p,A])).trans ((ent_conj (A := SevR 6 c R ⟨ys,(p1,cap1),ps,(p2,cap2)⟩) (M := [Vw 6 (.slice p1 ys.length cap1) ys.length (ys.flatMap c),yB R ys,Vw 1 (.slice p2 ps.length cap2) ps.length (ints ps)]) (fun B hB => by
    simp only [List.mem_cons,List.not_mem_nil,or_false] at hB
    rcases hB with rfl | rfl | rfl
    · exact up_vw _ _ _ _
    · exact up_all hup _
    · exact up_vw _ _ _ _) (fun k hk => ⟨⟨hc1,hc2⟩,hk _ (by simp),hk _ (by simp),hk _ (by simp)⟩)).trans Ent.sel)
set_option maxHeartbeats 2000000 in
theorem severalTemplate_c (hsz : ∀ x,(c x).length = 3) (h1 : ∀ x,∀ v ∈ c x,v.oneCell' = true) (hup : ∀ y,Up (R y)) (hgood : GoodR rd) (q : Nat) (hl : ∀ (bs : List UInt8) (pl : Int),0 ≤ pl ∧ pl + bs.length ≤ 1000000 → Ct Tryz.prog f (fs ++ [] ++ cs).toArray [RdB q bs pl,A] (RdE (rd bs pl) q er (fun y => .agg (c y).toArray) R A))
    (least most : Int) (hm : most ≤ 1000) (bs : List UInt8) (pl : Int) (hpl : 0 ≤ pl ∧ pl + bs.length ≤ 1000000) :
    Ct Tryz.prog 90 #[rdg q,.int .i64 least,.int .i64 most,.func (.func f) fs.toArray cs.toArray] [RdB q bs pl,A] (RdE (vR least most rd bs pl) q (sevE er) sevV (SevR 3 c R) A) := by
  have cp := place_B q bs pl
  have c1 := rnum11_c q bs pl most hpl (by omega)
  refine yE (vs := [_,_,_,_]) Tryz.func90 rfl Tryz.ntmps90 (by simp) ?_
  repeat (first|(first|refine zB ?_|refine zE ?_|refine zG ?_)|(first|((first|refine zA rfl ?_);first|refine zD rfl rfl ?_|refine zC rfl rfl ?_|refine zF rfl rfl ?_|refine zH rfl rfl ?_|refine zU rfl (by rfl) rfl ?_|refine yN rfl rfl (fun r => ?_)|refine zN rfl (cp) rfl ?_)))
  revert r
  intro r4
  refine JL_heap emp_in ?_
  refine zA rfl (wR rfl c1 rfl (fun n bs1 pl1 y g1 hy => ?_) (fun c a qf g1 => vG (by unfold vR;rw [g1];rfl)))
  obtain rfl : y = n := hy
  have p1 := uN _ _ _ _ _ _ g1
  have p2 := numR_le g1
  by_cases hle : (y : Int) < least
  · have e0 : vR least most rd bs pl = .bad 2 pl := by unfold vR;rw [g1,bind_ok,if_pos hle]
    repeat (first|(first|refine zB ?_|refine zE ?_|refine zG ?_|refine zL rfl ?_)|(first|((first|refine zA rfl ?_);first|refine JOq (yH rfl rfl (by omega)) rfl ?_|refine yG (cs := [.int .i64 2,.int .i64 pl]) rfl rfl rfl ?_|refine yG (cs := [xH _]) rfl rfl rfl ?_|refine JO_panic rfl ?_|refine zD rfl rfl ?_|refine zC rfl rfl ?_|refine yN rfl rfl (fun r => ?_)|refine vD (by simp) rfl rfl ?_)))
    exact vG e0
  have e0 : vR least most rd bs pl = vB rd y bs1 pl1 := by unfold vR;rw [g1,bind_ok,if_neg hle]
  repeat (first|(first|refine zB ?_|refine zE ?_|refine zG ?_|refine zK ?_|refine zP ?_|refine zJ rfl ?_)|(first|((first|refine zA rfl ?_);first|refine JOq (yS rfl rfl (by omega)) rfl ?_|refine zD rfl rfl ?_|refine zC rfl rfl ?_)))
  refine xQ (all_nil (R := R)) ?_
  refine xQ (own0 (e := 50) (sz := 3)) ?_
  refine xQ (uZ (e := 3)) ?_
  refine xU (β := { z : Nat × (List β × Value) × (List Int × Value) × List UInt8 × Int // z.1 ≤ y ∧ z.2.1.1.length = z.1 ∧ z.2.2.1.1.length = z.1 ∧ z.2.1.2.oneCell' = true ∧ z.2.2.1.2.oneCell' = true ∧ (0 ≤ z.2.2.2.2 ∧ z.2.2.2.2 + z.2.2.2.1.length ≤ 1000000) ∧ vB rd y bs1 pl1 = preR (z.2.1.1.map er) z.2.2.1.1 (vB rd (y - z.1) z.2.2.2.1 z.2.2.2.2) }) (fun z => [(4,ptr r4),(3,.func (.func f) fs.toArray cs.toArray),(8,z.1.2.1.2),(9,z.1.2.2.1.2),(27,.int .i64 (y : Int)),(28,.int .i64 (z.1.1 : Int))]) (fun _ => []) (fun z => [yC 50 3 z.1.2.1.2 z.1.2.1.1.length (z.1.2.1.1.flatMap c),yB R z.1.2.1.1,yC 3 1 z.1.2.2.1.2 z.1.2.2.1.1.length (ints z.1.2.2.1.1),RdB q z.1.2.2.2.1 z.1.2.2.2.2,A,pt r4 (.cells #[ptr q] 159 (0,0))]) (fun z => y - z.1.1) ⟨(0,([],.slice none 0 0),([],.slice none 0 0),bs1,pl1),by simp,rfl,rfl,rfl,rfl,by simp only;omega,by simp [preR_nil]⟩ ?_ rfl ?_ ?_
  · (repeat (first|exact zM _|refine zI rfl ?_))
  · simp only [List.flatMap_nil,List.length_nil]
    exact Ent.sel
  rintro ⟨⟨i,⟨ys,v1⟩,⟨ps,v2⟩,b,p⟩,k1,k2,k3,k4,k5,k6,k7⟩
  dsimp only at k1 k2 k3 k4 k5 k6 k7 ⊢
  by_cases hi : i < y
  · obtain ⟨k,hk⟩ : ∃ k,y - i = k + 1 := ⟨y - i - 1,by omega⟩
    rw [hk] at k7
    have cp := place_B q b p
    have cl := hl b p k6
    repeat (first|(first|refine zB ?_|refine zE ?_|refine zG ?_|refine zK ?_|refine zP ?_|refine zL rfl ?_)|(first|((first|refine zA rfl ?_);first|refine JOq (yH rfl rfl (by omega)) rfl ?_|refine zD rfl rfl ?_|refine zF rfl rfl ?_|refine zH rfl rfl ?_|refine yP rfl rfl rfl (by decide) rfl (fun r => ?_)|refine zN rfl (cp) rfl ?_)))
    refine zA rfl (wM (sz := 1) (n := ps.length) (m := 1) (news := [.int .i64 p]) rfl rfl wL rfl (by decide) rfl (by simp [Value.oneCell']) (Nat.le_trans (Nat.mul_le_mul_right _ (show ps.length + 1 ≤ 1001 by omega)) (by decide)) (by decide) rfl fun v2' hv2' => ?_)
    repeat (first|(first|refine zB ?_|refine zE ?_)|(first|((first|refine zA rfl ?_);first|refine zD rfl rfl ?_|refine zC rfl rfl ?_)))
    refine zA rfl (JO_callCR rfl rfl cl rfl (fun x bs2 pl2 z g2 hz => ?_) (fun c a qf g2 => vG (by rw [e0,k7];exact preR_bad g2 _ _)))
    have p3 := hgood _ _ _ _ _ g2
    refine zA rfl (yP (n := 3) (vs := [.agg (c z).toArray]) (cs := c z) rfl rfl (hc := cat_agg1 3 (c z) (hsz z)) rfl (by decide) rfl (fun r9 => ?_))
    refine zA rfl (wM (sz := 3) (n := ys.length) (m := 1) (news := c z) rfl rfl wL rfl (by decide) (by rw [hsz]) (h1 z) (Nat.le_trans (Nat.mul_le_mul_right _ (show ys.length + 1 ≤ 1001 by omega)) (by decide)) (by decide) rfl fun v1' hv1' => ?_)
    repeat (first|(first|refine zB ?_|refine zE ?_)|(first|((first|refine zA rfl ?_);first|refine yZ (b := 1) rfl rfl (by omega) rfl ?_|refine zD rfl rfl ?_|refine zC rfl rfl ?_)))
    refine ⟨⟨(i + 1,(ys ++ [z],v1'),(ps ++ [p],v2'),bs2,pl2),by simp only;omega,by simp only [List.length_append,List.length_singleton];omega,by simp only [List.length_append,List.length_singleton];omega,hv1',hv2',by simp only;omega,?_⟩,by simp only;omega,by (repeat (first|exact zM _|refine zI rfl ?_)),rfl,?_⟩
    · simp only
      rw [k7,preR_ok g2,List.map_append,List.map_singleton,hz,show y - (i + 1) = k by omega]
    · simp only [List.flatMap_append,List.flatMap_singleton,List.length_append,List.length_singleton,ints_snoc]
      exact (Ent.sel (K := [yB R ys,R z,yC 50 3 v1' (ys.length + 1) (ys.flatMap c ++ c z),yC 3 1 v2' (ps.length + 1) (ints ps ++ [.int .i64 p]),RdB q bs2 pl2,A,pt r4 (.cells #[ptr q] 159 (0,0))])).trans ((all_snoc hup).trans Ent.sel)
  obtain rfl : i = y := by omega
  rw [Nat.sub_self] at k7
  have k8 : vB rd i bs1 pl1 = .ok (ys.map er,ps) b p := by rw [k7];unfold vB;simp [preR]
  refine wQ (yC 3 1 v2 ps.length (ints ps)) ?_
  refine uU (fun p2 cap2 hv2 hc2 => ?_)
  subst hv2
  refine wQ (yC 50 3 v1 ys.length (ys.flatMap c)) ?_
  refine uU (fun p1 cap1 hv1 hc1 => ?_)
  subst hv1
  repeat (first|(first|refine zB ?_|refine zE ?_|refine zG ?_|refine zJ rfl ?_|refine xA ?_|refine zV ?_)|(first|((first|refine zA rfl ?_);first|refine JOq (yS rfl rfl (by omega)) rfl ?_|refine zD rfl rfl ?_|refine zC rfl rfl ?_)))
  refine tN (res_two rfl rfl rfl) (e0.trans k8) ⟨ys,(p1,cap1),ps,(p2,cap2)⟩ rfl rfl ?_
  exact (Ent.sel (K := [Vw 3 (.slice p1 ys.length cap1) ys.length (ys.flatMap c),yB R ys,Vw 1 (.slice p2 ps.length cap2) ps.length (ints ps),RdB q b p,A])).trans ((ent_conj (A := SevR 3 c R ⟨ys,(p1,cap1),ps,(p2,cap2)⟩) (M := [Vw 3 (.slice p1 ys.length cap1) ys.length (ys.flatMap c),yB R ys,Vw 1 (.slice p2 ps.length cap2) ps.length (ints ps)]) (fun B hB => by
    simp only [List.mem_cons,List.not_mem_nil,or_false] at hB
    rcases hB with rfl | rfl | rfl
    · exact up_vw _ _ _ _
    · exact up_all hup _
    · exact up_vw _ _ _ _) (fun k hk => ⟨⟨hc1,hc2⟩,hk _ (by simp),hk _ (by simp),hk _ (by simp)⟩)).trans Ent.sel)
set_option maxHeartbeats 2000000 in
theorem severalType_c (hsz : ∀ x,(c x).length = 2) (h1 : ∀ x,∀ v ∈ c x,v.oneCell' = true) (hup : ∀ y,Up (R y)) (hgood : GoodR rd) (q : Nat) (hl : ∀ (bs : List UInt8) (pl : Int),0 ≤ pl ∧ pl + bs.length ≤ 1000000 → Ct Tryz.prog f (fs ++ [] ++ cs).toArray [RdB q bs pl,A] (RdE (rd bs pl) q er (fun y => .agg (c y).toArray) R A))
    (least most : Int) (hm : most ≤ 1000) (bs : List UInt8) (pl : Int) (hpl : 0 ≤ pl ∧ pl + bs.length ≤ 1000000) :
    Ct Tryz.prog 92 #[rdg q,.int .i64 least,.int .i64 most,.func (.func f) fs.toArray cs.toArray] [RdB q bs pl,A] (RdE (vR least most rd bs pl) q (sevE er) sevV (SevR 2 c R) A) := by
  have cp := place_B q bs pl
  have c1 := rnum11_c q bs pl most hpl (by omega)
  refine yE (vs := [_,_,_,_]) Tryz.func92 rfl Tryz.ntmps92 (by simp) ?_
  repeat (first|(first|refine zB ?_|refine zE ?_|refine zG ?_)|(first|((first|refine zA rfl ?_);first|refine zD rfl rfl ?_|refine zC rfl rfl ?_|refine zF rfl rfl ?_|refine zH rfl rfl ?_|refine zU rfl (by rfl) rfl ?_|refine yN rfl rfl (fun r => ?_)|refine zN rfl (cp) rfl ?_)))
  revert r
  intro r4
  refine JL_heap emp_in ?_
  refine zA rfl (wR rfl c1 rfl (fun n bs1 pl1 y g1 hy => ?_) (fun c a qf g1 => vG (by unfold vR;rw [g1];rfl)))
  obtain rfl : y = n := hy
  have p1 := uN _ _ _ _ _ _ g1
  have p2 := numR_le g1
  by_cases hle : (y : Int) < least
  · have e0 : vR least most rd bs pl = .bad 2 pl := by unfold vR;rw [g1,bind_ok,if_pos hle]
    repeat (first|(first|refine zB ?_|refine zE ?_|refine zG ?_|refine zL rfl ?_)|(first|((first|refine zA rfl ?_);first|refine JOq (yH rfl rfl (by omega)) rfl ?_|refine yG (cs := [.int .i64 2,.int .i64 pl]) rfl rfl rfl ?_|refine yG (cs := [xH _]) rfl rfl rfl ?_|refine JO_panic rfl ?_|refine zD rfl rfl ?_|refine zC rfl rfl ?_|refine yN rfl rfl (fun r => ?_)|refine vD (by simp) rfl rfl ?_)))
    exact vG e0
  have e0 : vR least most rd bs pl = vB rd y bs1 pl1 := by unfold vR;rw [g1,bind_ok,if_neg hle]
  repeat (first|(first|refine zB ?_|refine zE ?_|refine zG ?_|refine zK ?_|refine zP ?_|refine zJ rfl ?_)|(first|((first|refine zA rfl ?_);first|refine JOq (yS rfl rfl (by omega)) rfl ?_|refine zD rfl rfl ?_|refine zC rfl rfl ?_)))
  refine xQ (all_nil (R := R)) ?_
  refine xQ (own0 (e := 60) (sz := 2)) ?_
  refine xQ (uZ (e := 3)) ?_
  refine xU (β := { z : Nat × (List β × Value) × (List Int × Value) × List UInt8 × Int // z.1 ≤ y ∧ z.2.1.1.length = z.1 ∧ z.2.2.1.1.length = z.1 ∧ z.2.1.2.oneCell' = true ∧ z.2.2.1.2.oneCell' = true ∧ (0 ≤ z.2.2.2.2 ∧ z.2.2.2.2 + z.2.2.2.1.length ≤ 1000000) ∧ vB rd y bs1 pl1 = preR (z.2.1.1.map er) z.2.2.1.1 (vB rd (y - z.1) z.2.2.2.1 z.2.2.2.2) }) (fun z => [(4,ptr r4),(3,.func (.func f) fs.toArray cs.toArray),(8,z.1.2.1.2),(9,z.1.2.2.1.2),(27,.int .i64 (y : Int)),(28,.int .i64 (z.1.1 : Int))]) (fun _ => []) (fun z => [yC 60 2 z.1.2.1.2 z.1.2.1.1.length (z.1.2.1.1.flatMap c),yB R z.1.2.1.1,yC 3 1 z.1.2.2.1.2 z.1.2.2.1.1.length (ints z.1.2.2.1.1),RdB q z.1.2.2.2.1 z.1.2.2.2.2,A,pt r4 (.cells #[ptr q] 159 (0,0))]) (fun z => y - z.1.1) ⟨(0,([],.slice none 0 0),([],.slice none 0 0),bs1,pl1),by simp,rfl,rfl,rfl,rfl,by simp only;omega,by simp [preR_nil]⟩ ?_ rfl ?_ ?_
  · (repeat (first|exact zM _|refine zI rfl ?_))
  · simp only [List.flatMap_nil,List.length_nil]
    exact Ent.sel
  rintro ⟨⟨i,⟨ys,v1⟩,⟨ps,v2⟩,b,p⟩,k1,k2,k3,k4,k5,k6,k7⟩
  dsimp only at k1 k2 k3 k4 k5 k6 k7 ⊢
  by_cases hi : i < y
  · obtain ⟨k,hk⟩ : ∃ k,y - i = k + 1 := ⟨y - i - 1,by omega⟩
    rw [hk] at k7
    have cp := place_B q b p
    have cl := hl b p k6
    repeat (first|(first|refine zB ?_|refine zE ?_|refine zG ?_|refine zK ?_|refine zP ?_|refine zL rfl ?_)|(first|((first|refine zA rfl ?_);first|refine JOq (yH rfl rfl (by omega)) rfl ?_|refine zD rfl rfl ?_|refine zF rfl rfl ?_|refine zH rfl rfl ?_|refine yP rfl rfl rfl (by decide) rfl (fun r => ?_)|refine zN rfl (cp) rfl ?_)))
    refine zA rfl (wM (sz := 1) (n := ps.length) (m := 1) (news := [.int .i64 p]) rfl rfl wL rfl (by decide) rfl (by simp [Value.oneCell']) (Nat.le_trans (Nat.mul_le_mul_right _ (show ps.length + 1 ≤ 1001 by omega)) (by decide)) (by decide) rfl fun v2' hv2' => ?_)
    repeat (first|(first|refine zB ?_|refine zE ?_)|(first|((first|refine zA rfl ?_);first|refine zD rfl rfl ?_|refine zC rfl rfl ?_)))
    refine zA rfl (JO_callCR rfl rfl cl rfl (fun x bs2 pl2 z g2 hz => ?_) (fun c a qf g2 => vG (by rw [e0,k7];exact preR_bad g2 _ _)))
    have p3 := hgood _ _ _ _ _ g2
    refine zA rfl (yP (n := 2) (vs := [.agg (c z).toArray]) (cs := c z) rfl rfl (hc := cat_agg1 2 (c z) (hsz z)) rfl (by decide) rfl (fun r9 => ?_))
    refine zA rfl (wM (sz := 2) (n := ys.length) (m := 1) (news := c z) rfl rfl wL rfl (by decide) (by rw [hsz]) (h1 z) (Nat.le_trans (Nat.mul_le_mul_right _ (show ys.length + 1 ≤ 1001 by omega)) (by decide)) (by decide) rfl fun v1' hv1' => ?_)
    repeat (first|(first|refine zB ?_|refine zE ?_)|(first|((first|refine zA rfl ?_);first|refine yZ (b := 1) rfl rfl (by omega) rfl ?_|refine zD rfl rfl ?_|refine zC rfl rfl ?_)))
    refine ⟨⟨(i + 1,(ys ++ [z],v1'),(ps ++ [p],v2'),bs2,pl2),by simp only;omega,by simp only [List.length_append,List.length_singleton];omega,by simp only [List.length_append,List.length_singleton];omega,hv1',hv2',by simp only;omega,?_⟩,by simp only;omega,by (repeat (first|exact zM _|refine zI rfl ?_)),rfl,?_⟩
    · simp only
      rw [k7,preR_ok g2,List.map_append,List.map_singleton,hz,show y - (i + 1) = k by omega]
    · simp only [List.flatMap_append,List.flatMap_singleton,List.length_append,List.length_singleton,ints_snoc]
      exact (Ent.sel (K := [yB R ys,R z,yC 60 2 v1' (ys.length + 1) (ys.flatMap c ++ c z),yC 3 1 v2' (ps.length + 1) (ints ps ++ [.int .i64 p]),RdB q bs2 pl2,A,pt r4 (.cells #[ptr q] 159 (0,0))])).trans ((all_snoc hup).trans Ent.sel)
  obtain rfl : i = y := by omega
  rw [Nat.sub_self] at k7
  have k8 : vB rd i bs1 pl1 = .ok (ys.map er,ps) b p := by rw [k7];unfold vB;simp [preR]
  refine wQ (yC 3 1 v2 ps.length (ints ps)) ?_
  refine uU (fun p2 cap2 hv2 hc2 => ?_)
  subst hv2
  refine wQ (yC 60 2 v1 ys.length (ys.flatMap c)) ?_
  refine uU (fun p1 cap1 hv1 hc1 => ?_)
  subst hv1
  repeat (first|(first|refine zB ?_|refine zE ?_|refine zG ?_|refine zJ rfl ?_|refine xA ?_|refine zV ?_)|(first|((first|refine zA rfl ?_);first|refine JOq (yS rfl rfl (by omega)) rfl ?_|refine zD rfl rfl ?_|refine zC rfl rfl ?_)))
  refine tN (res_two rfl rfl rfl) (e0.trans k8) ⟨ys,(p1,cap1),ps,(p2,cap2)⟩ rfl rfl ?_
  exact (Ent.sel (K := [Vw 2 (.slice p1 ys.length cap1) ys.length (ys.flatMap c),yB R ys,Vw 1 (.slice p2 ps.length cap2) ps.length (ints ps),RdB q b p,A])).trans ((ent_conj (A := SevR 2 c R ⟨ys,(p1,cap1),ps,(p2,cap2)⟩) (M := [Vw 2 (.slice p1 ys.length cap1) ys.length (ys.flatMap c),yB R ys,Vw 1 (.slice p2 ps.length cap2) ps.length (ints ps)]) (fun B hB => by
    simp only [List.mem_cons,List.not_mem_nil,or_false] at hB
    rcases hB with rfl | rfl | rfl
    · exact up_vw _ _ _ _
    · exact up_all hup _
    · exact up_vw _ _ _ _) (fun k hk => ⟨⟨hc1,hc2⟩,hk _ (by simp),hk _ (by simp),hk _ (by simp)⟩)).trans Ent.sel)
set_option maxHeartbeats 2000000 in
theorem severalStart_c (hsz : ∀ x,(c x).length = 2) (h1 : ∀ x,∀ v ∈ c x,v.oneCell' = true) (hup : ∀ y,Up (R y)) (hgood : GoodR rd) (q : Nat) (hl : ∀ (bs : List UInt8) (pl : Int),0 ≤ pl ∧ pl + bs.length ≤ 1000000 → Ct Tryz.prog f (fs ++ [] ++ cs).toArray [RdB q bs pl,A] (RdE (rd bs pl) q er (fun y => .agg (c y).toArray) R A))
    (least most : Int) (hm : most ≤ 1000) (bs : List UInt8) (pl : Int) (hpl : 0 ≤ pl ∧ pl + bs.length ≤ 1000000) :
    Ct Tryz.prog 94 #[rdg q,.int .i64 least,.int .i64 most,.func (.func f) fs.toArray cs.toArray] [RdB q bs pl,A] (RdE (vR least most rd bs pl) q (sevE er) sevV (SevR 2 c R) A) := by
  have cp := place_B q bs pl
  have c1 := rnum11_c q bs pl most hpl (by omega)
  refine yE (vs := [_,_,_,_]) Tryz.func94 rfl Tryz.ntmps94 (by simp) ?_
  repeat (first|(first|refine zB ?_|refine zE ?_|refine zG ?_)|(first|((first|refine zA rfl ?_);first|refine zD rfl rfl ?_|refine zC rfl rfl ?_|refine zF rfl rfl ?_|refine zH rfl rfl ?_|refine zU rfl (by rfl) rfl ?_|refine yN rfl rfl (fun r => ?_)|refine zN rfl (cp) rfl ?_)))
  revert r
  intro r4
  refine JL_heap emp_in ?_
  refine zA rfl (wR rfl c1 rfl (fun n bs1 pl1 y g1 hy => ?_) (fun c a qf g1 => vG (by unfold vR;rw [g1];rfl)))
  obtain rfl : y = n := hy
  have p1 := uN _ _ _ _ _ _ g1
  have p2 := numR_le g1
  by_cases hle : (y : Int) < least
  · have e0 : vR least most rd bs pl = .bad 2 pl := by unfold vR;rw [g1,bind_ok,if_pos hle]
    repeat (first|(first|refine zB ?_|refine zE ?_|refine zG ?_|refine zL rfl ?_)|(first|((first|refine zA rfl ?_);first|refine JOq (yH rfl rfl (by omega)) rfl ?_|refine yG (cs := [.int .i64 2,.int .i64 pl]) rfl rfl rfl ?_|refine yG (cs := [xH _]) rfl rfl rfl ?_|refine JO_panic rfl ?_|refine zD rfl rfl ?_|refine zC rfl rfl ?_|refine yN rfl rfl (fun r => ?_)|refine vD (by simp) rfl rfl ?_)))
    exact vG e0
  have e0 : vR least most rd bs pl = vB rd y bs1 pl1 := by unfold vR;rw [g1,bind_ok,if_neg hle]
  repeat (first|(first|refine zB ?_|refine zE ?_|refine zG ?_|refine zK ?_|refine zP ?_|refine zJ rfl ?_)|(first|((first|refine zA rfl ?_);first|refine JOq (yS rfl rfl (by omega)) rfl ?_|refine zD rfl rfl ?_|refine zC rfl rfl ?_)))
  refine xQ (all_nil (R := R)) ?_
  refine xQ (own0 (e := 67) (sz := 2)) ?_
  refine xQ (uZ (e := 3)) ?_
  refine xU (β := { z : Nat × (List β × Value) × (List Int × Value) × List UInt8 × Int // z.1 ≤ y ∧ z.2.1.1.length = z.1 ∧ z.2.2.1.1.length = z.1 ∧ z.2.1.2.oneCell' = true ∧ z.2.2.1.2.oneCell' = true ∧ (0 ≤ z.2.2.2.2 ∧ z.2.2.2.2 + z.2.2.2.1.length ≤ 1000000) ∧ vB rd y bs1 pl1 = preR (z.2.1.1.map er) z.2.2.1.1 (vB rd (y - z.1) z.2.2.2.1 z.2.2.2.2) }) (fun z => [(4,ptr r4),(3,.func (.func f) fs.toArray cs.toArray),(8,z.1.2.1.2),(9,z.1.2.2.1.2),(27,.int .i64 (y : Int)),(28,.int .i64 (z.1.1 : Int))]) (fun _ => []) (fun z => [yC 67 2 z.1.2.1.2 z.1.2.1.1.length (z.1.2.1.1.flatMap c),yB R z.1.2.1.1,yC 3 1 z.1.2.2.1.2 z.1.2.2.1.1.length (ints z.1.2.2.1.1),RdB q z.1.2.2.2.1 z.1.2.2.2.2,A,pt r4 (.cells #[ptr q] 159 (0,0))]) (fun z => y - z.1.1) ⟨(0,([],.slice none 0 0),([],.slice none 0 0),bs1,pl1),by simp,rfl,rfl,rfl,rfl,by simp only;omega,by simp [preR_nil]⟩ ?_ rfl ?_ ?_
  · (repeat (first|exact zM _|refine zI rfl ?_))
  · simp only [List.flatMap_nil,List.length_nil]
    exact Ent.sel
  rintro ⟨⟨i,⟨ys,v1⟩,⟨ps,v2⟩,b,p⟩,k1,k2,k3,k4,k5,k6,k7⟩
  dsimp only at k1 k2 k3 k4 k5 k6 k7 ⊢
  by_cases hi : i < y
  · obtain ⟨k,hk⟩ : ∃ k,y - i = k + 1 := ⟨y - i - 1,by omega⟩
    rw [hk] at k7
    have cp := place_B q b p
    have cl := hl b p k6
    repeat (first|(first|refine zB ?_|refine zE ?_|refine zG ?_|refine zK ?_|refine zP ?_|refine zL rfl ?_)|(first|((first|refine zA rfl ?_);first|refine JOq (yH rfl rfl (by omega)) rfl ?_|refine zD rfl rfl ?_|refine zF rfl rfl ?_|refine zH rfl rfl ?_|refine yP rfl rfl rfl (by decide) rfl (fun r => ?_)|refine zN rfl (cp) rfl ?_)))
    refine zA rfl (wM (sz := 1) (n := ps.length) (m := 1) (news := [.int .i64 p]) rfl rfl wL rfl (by decide) rfl (by simp [Value.oneCell']) (Nat.le_trans (Nat.mul_le_mul_right _ (show ps.length + 1 ≤ 1001 by omega)) (by decide)) (by decide) rfl fun v2' hv2' => ?_)
    repeat (first|(first|refine zB ?_|refine zE ?_)|(first|((first|refine zA rfl ?_);first|refine zD rfl rfl ?_|refine zC rfl rfl ?_)))
    refine zA rfl (JO_callCR rfl rfl cl rfl (fun x bs2 pl2 z g2 hz => ?_) (fun c a qf g2 => vG (by rw [e0,k7];exact preR_bad g2 _ _)))
    have p3 := hgood _ _ _ _ _ g2
    refine zA rfl (yP (n := 2) (vs := [.agg (c z).toArray]) (cs := c z) rfl rfl (hc := cat_agg1 2 (c z) (hsz z)) rfl (by decide) rfl (fun r9 => ?_))
    refine zA rfl (wM (sz := 2) (n := ys.length) (m := 1) (news := c z) rfl rfl wL rfl (by decide) (by rw [hsz]) (h1 z) (Nat.le_trans (Nat.mul_le_mul_right _ (show ys.length + 1 ≤ 1001 by omega)) (by decide)) (by decide) rfl fun v1' hv1' => ?_)
    repeat (first|(first|refine zB ?_|refine zE ?_)|(first|((first|refine zA rfl ?_);first|refine yZ (b := 1) rfl rfl (by omega) rfl ?_|refine zD rfl rfl ?_|refine zC rfl rfl ?_)))
    refine ⟨⟨(i + 1,(ys ++ [z],v1'),(ps ++ [p],v2'),bs2,pl2),by simp only;omega,by simp only [List.length_append,List.length_singleton];omega,by simp only [List.length_append,List.length_singleton];omega,hv1',hv2',by simp only;omega,?_⟩,by simp only;omega,by (repeat (first|exact zM _|refine zI rfl ?_)),rfl,?_⟩
    · simp only
      rw [k7,preR_ok g2,List.map_append,List.map_singleton,hz,show y - (i + 1) = k by omega]
    · simp only [List.flatMap_append,List.flatMap_singleton,List.length_append,List.length_singleton,ints_snoc]
      exact (Ent.sel (K := [yB R ys,R z,yC 67 2 v1' (ys.length + 1) (ys.flatMap c ++ c z),yC 3 1 v2' (ps.length + 1) (ints ps ++ [.int .i64 p]),RdB q bs2 pl2,A,pt r4 (.cells #[ptr q] 159 (0,0))])).trans ((all_snoc hup).trans Ent.sel)
  obtain rfl : i = y := by omega
  rw [Nat.sub_self] at k7
  have k8 : vB rd i bs1 pl1 = .ok (ys.map er,ps) b p := by rw [k7];unfold vB;simp [preR]
  refine wQ (yC 3 1 v2 ps.length (ints ps)) ?_
  refine uU (fun p2 cap2 hv2 hc2 => ?_)
  subst hv2
  refine wQ (yC 67 2 v1 ys.length (ys.flatMap c)) ?_
  refine uU (fun p1 cap1 hv1 hc1 => ?_)
  subst hv1
  repeat (first|(first|refine zB ?_|refine zE ?_|refine zG ?_|refine zJ rfl ?_|refine xA ?_|refine zV ?_)|(first|((first|refine zA rfl ?_);first|refine JOq (yS rfl rfl (by omega)) rfl ?_|refine zD rfl rfl ?_|refine zC rfl rfl ?_)))
  refine tN (res_two rfl rfl rfl) (e0.trans k8) ⟨ys,(p1,cap1),ps,(p2,cap2)⟩ rfl rfl ?_
  exact (Ent.sel (K := [Vw 2 (.slice p1 ys.length cap1) ys.length (ys.flatMap c),yB R ys,Vw 1 (.slice p2 ps.length cap2) ps.length (ints ps),RdB q b p,A])).trans ((ent_conj (A := SevR 2 c R ⟨ys,(p1,cap1),ps,(p2,cap2)⟩) (M := [Vw 2 (.slice p1 ys.length cap1) ys.length (ys.flatMap c),yB R ys,Vw 1 (.slice p2 ps.length cap2) ps.length (ints ps)]) (fun B hB => by
    simp only [List.mem_cons,List.not_mem_nil,or_false] at hB
    rcases hB with rfl | rfl | rfl
    · exact up_vw _ _ _ _
    · exact up_all hup _
    · exact up_vw _ _ _ _) (fun k hk => ⟨⟨hc1,hc2⟩,hk _ (by simp),hk _ (by simp),hk _ (by simp)⟩)).trans Ent.sel)
set_option maxHeartbeats 2000000 in
theorem severalEdge_c (hsz : ∀ x,(c x).length = 2) (h1 : ∀ x,∀ v ∈ c x,v.oneCell' = true) (hup : ∀ y,Up (R y)) (hgood : GoodR rd) (q : Nat) (hl : ∀ (bs : List UInt8) (pl : Int),0 ≤ pl ∧ pl + bs.length ≤ 1000000 → Ct Tryz.prog f (fs ++ [] ++ cs).toArray [RdB q bs pl,A] (RdE (rd bs pl) q er (fun y => .agg (c y).toArray) R A))
    (least most : Int) (hm : most ≤ 1000) (bs : List UInt8) (pl : Int) (hpl : 0 ≤ pl ∧ pl + bs.length ≤ 1000000) :
    Ct Tryz.prog 137 #[rdg q,.int .i64 least,.int .i64 most,.func (.func f) fs.toArray cs.toArray] [RdB q bs pl,A] (RdE (vR least most rd bs pl) q (sevE er) sevV (SevR 2 c R) A) := by
  have cp := place_B q bs pl
  have c1 := rnum11_c q bs pl most hpl (by omega)
  refine yE (vs := [_,_,_,_]) Tryz.func137 rfl Tryz.ntmps137 (by simp) ?_
  repeat (first|(first|refine zB ?_|refine zE ?_|refine zG ?_)|(first|((first|refine zA rfl ?_);first|refine zD rfl rfl ?_|refine zC rfl rfl ?_|refine zF rfl rfl ?_|refine zH rfl rfl ?_|refine zU rfl (by rfl) rfl ?_|refine yN rfl rfl (fun r => ?_)|refine zN rfl (cp) rfl ?_)))
  revert r
  intro r4
  refine JL_heap emp_in ?_
  refine zA rfl (wR rfl c1 rfl (fun n bs1 pl1 y g1 hy => ?_) (fun c a qf g1 => vG (by unfold vR;rw [g1];rfl)))
  obtain rfl : y = n := hy
  have p1 := uN _ _ _ _ _ _ g1
  have p2 := numR_le g1
  by_cases hle : (y : Int) < least
  · have e0 : vR least most rd bs pl = .bad 2 pl := by unfold vR;rw [g1,bind_ok,if_pos hle]
    repeat (first|(first|refine zB ?_|refine zE ?_|refine zG ?_|refine zL rfl ?_)|(first|((first|refine zA rfl ?_);first|refine JOq (yH rfl rfl (by omega)) rfl ?_|refine yG (cs := [.int .i64 2,.int .i64 pl]) rfl rfl rfl ?_|refine yG (cs := [xH _]) rfl rfl rfl ?_|refine JO_panic rfl ?_|refine zD rfl rfl ?_|refine zC rfl rfl ?_|refine yN rfl rfl (fun r => ?_)|refine vD (by simp) rfl rfl ?_)))
    exact vG e0
  have e0 : vR least most rd bs pl = vB rd y bs1 pl1 := by unfold vR;rw [g1,bind_ok,if_neg hle]
  repeat (first|(first|refine zB ?_|refine zE ?_|refine zG ?_|refine zK ?_|refine zP ?_|refine zJ rfl ?_)|(first|((first|refine zA rfl ?_);first|refine JOq (yS rfl rfl (by omega)) rfl ?_|refine zD rfl rfl ?_|refine zC rfl rfl ?_)))
  refine xQ (all_nil (R := R)) ?_
  refine xQ (own0 (e := 55) (sz := 2)) ?_
  refine xQ (uZ (e := 3)) ?_
  refine xU (β := { z : Nat × (List β × Value) × (List Int × Value) × List UInt8 × Int // z.1 ≤ y ∧ z.2.1.1.length = z.1 ∧ z.2.2.1.1.length = z.1 ∧ z.2.1.2.oneCell' = true ∧ z.2.2.1.2.oneCell' = true ∧ (0 ≤ z.2.2.2.2 ∧ z.2.2.2.2 + z.2.2.2.1.length ≤ 1000000) ∧ vB rd y bs1 pl1 = preR (z.2.1.1.map er) z.2.2.1.1 (vB rd (y - z.1) z.2.2.2.1 z.2.2.2.2) }) (fun z => [(4,ptr r4),(3,.func (.func f) fs.toArray cs.toArray),(8,z.1.2.1.2),(9,z.1.2.2.1.2),(27,.int .i64 (y : Int)),(28,.int .i64 (z.1.1 : Int))]) (fun _ => []) (fun z => [yC 55 2 z.1.2.1.2 z.1.2.1.1.length (z.1.2.1.1.flatMap c),yB R z.1.2.1.1,yC 3 1 z.1.2.2.1.2 z.1.2.2.1.1.length (ints z.1.2.2.1.1),RdB q z.1.2.2.2.1 z.1.2.2.2.2,A,pt r4 (.cells #[ptr q] 159 (0,0))]) (fun z => y - z.1.1) ⟨(0,([],.slice none 0 0),([],.slice none 0 0),bs1,pl1),by simp,rfl,rfl,rfl,rfl,by simp only;omega,by simp [preR_nil]⟩ ?_ rfl ?_ ?_
  · (repeat (first|exact zM _|refine zI rfl ?_))
  · simp only [List.flatMap_nil,List.length_nil]
    exact Ent.sel
  rintro ⟨⟨i,⟨ys,v1⟩,⟨ps,v2⟩,b,p⟩,k1,k2,k3,k4,k5,k6,k7⟩
  dsimp only at k1 k2 k3 k4 k5 k6 k7 ⊢
  by_cases hi : i < y
  · obtain ⟨k,hk⟩ : ∃ k,y - i = k + 1 := ⟨y - i - 1,by omega⟩
    rw [hk] at k7
    have cp := place_B q b p
    have cl := hl b p k6
    repeat (first|(first|refine zB ?_|refine zE ?_|refine zG ?_|refine zK ?_|refine zP ?_|refine zL rfl ?_)|(first|((first|refine zA rfl ?_);first|refine JOq (yH rfl rfl (by omega)) rfl ?_|refine zD rfl rfl ?_|refine zF rfl rfl ?_|refine zH rfl rfl ?_|refine yP rfl rfl rfl (by decide) rfl (fun r => ?_)|refine zN rfl (cp) rfl ?_)))
    refine zA rfl (wM (sz := 1) (n := ps.length) (m := 1) (news := [.int .i64 p]) rfl rfl wL rfl (by decide) rfl (by simp [Value.oneCell']) (Nat.le_trans (Nat.mul_le_mul_right _ (show ps.length + 1 ≤ 1001 by omega)) (by decide)) (by decide) rfl fun v2' hv2' => ?_)
    repeat (first|(first|refine zB ?_|refine zE ?_)|(first|((first|refine zA rfl ?_);first|refine zD rfl rfl ?_|refine zC rfl rfl ?_)))
    refine zA rfl (JO_callCR rfl rfl cl rfl (fun x bs2 pl2 z g2 hz => ?_) (fun c a qf g2 => vG (by rw [e0,k7];exact preR_bad g2 _ _)))
    have p3 := hgood _ _ _ _ _ g2
    refine zA rfl (yP (n := 2) (vs := [.agg (c z).toArray]) (cs := c z) rfl rfl (hc := cat_agg1 2 (c z) (hsz z)) rfl (by decide) rfl (fun r9 => ?_))
    refine zA rfl (wM (sz := 2) (n := ys.length) (m := 1) (news := c z) rfl rfl wL rfl (by decide) (by rw [hsz]) (h1 z) (Nat.le_trans (Nat.mul_le_mul_right _ (show ys.length + 1 ≤ 1001 by omega)) (by decide)) (by decide) rfl fun v1' hv1' => ?_)
    repeat (first|(first|refine zB ?_|refine zE ?_)|(first|((first|refine zA rfl ?_);first|refine yZ (b := 1) rfl rfl (by omega) rfl ?_|refine zD rfl rfl ?_|refine zC rfl rfl ?_)))
    refine ⟨⟨(i + 1,(ys ++ [z],v1'),(ps ++ [p],v2'),bs2,pl2),by simp only;omega,by simp only [List.length_append,List.length_singleton];omega,by simp only [List.length_append,List.length_singleton];omega,hv1',hv2',by simp only;omega,?_⟩,by simp only;omega,by (repeat (first|exact zM _|refine zI rfl ?_)),rfl,?_⟩
    · simp only
      rw [k7,preR_ok g2,List.map_append,List.map_singleton,hz,show y - (i + 1) = k by omega]
    · simp only [List.flatMap_append,List.flatMap_singleton,List.length_append,List.length_singleton,ints_snoc]
      exact (Ent.sel (K := [yB R ys,R z,yC 55 2 v1' (ys.length + 1) (ys.flatMap c ++ c z),yC 3 1 v2' (ps.length + 1) (ints ps ++ [.int .i64 p]),RdB q bs2 pl2,A,pt r4 (.cells #[ptr q] 159 (0,0))])).trans ((all_snoc hup).trans Ent.sel)
  obtain rfl : i = y := by omega
  rw [Nat.sub_self] at k7
  have k8 : vB rd i bs1 pl1 = .ok (ys.map er,ps) b p := by rw [k7];unfold vB;simp [preR]
  refine wQ (yC 3 1 v2 ps.length (ints ps)) ?_
  refine uU (fun p2 cap2 hv2 hc2 => ?_)
  subst hv2
  refine wQ (yC 55 2 v1 ys.length (ys.flatMap c)) ?_
  refine uU (fun p1 cap1 hv1 hc1 => ?_)
  subst hv1
  repeat (first|(first|refine zB ?_|refine zE ?_|refine zG ?_|refine zJ rfl ?_|refine xA ?_|refine zV ?_)|(first|((first|refine zA rfl ?_);first|refine JOq (yS rfl rfl (by omega)) rfl ?_|refine zD rfl rfl ?_|refine zC rfl rfl ?_)))
  refine tN (res_two rfl rfl rfl) (e0.trans k8) ⟨ys,(p1,cap1),ps,(p2,cap2)⟩ rfl rfl ?_
  exact (Ent.sel (K := [Vw 2 (.slice p1 ys.length cap1) ys.length (ys.flatMap c),yB R ys,Vw 1 (.slice p2 ps.length cap2) ps.length (ints ps),RdB q b p,A])).trans ((ent_conj (A := SevR 2 c R ⟨ys,(p1,cap1),ps,(p2,cap2)⟩) (M := [Vw 2 (.slice p1 ys.length cap1) ys.length (ys.flatMap c),yB R ys,Vw 1 (.slice p2 ps.length cap2) ps.length (ints ps)]) (fun B hB => by
    simp only [List.mem_cons,List.not_mem_nil,or_false] at hB
    rcases hB with rfl | rfl | rfl
    · exact up_vw _ _ _ _
    · exact up_all hup _
    · exact up_vw _ _ _ _) (fun k hk => ⟨⟨hc1,hc2⟩,hk _ (by simp),hk _ (by simp),hk _ (by simp)⟩)).trans Ent.sel)
set_option maxHeartbeats 2000000 in
theorem severalParam_c (hsz : ∀ x,(c x).length = 3) (h1 : ∀ x,∀ v ∈ c x,v.oneCell' = true) (hup : ∀ y,Up (R y)) (hgood : GoodR rd) (q : Nat) (hl : ∀ (bs : List UInt8) (pl : Int),0 ≤ pl ∧ pl + bs.length ≤ 1000000 → Ct Tryz.prog f (fs ++ [] ++ cs).toArray [RdB q bs pl,A] (RdE (rd bs pl) q er (fun y => .agg (c y).toArray) R A))
    (least most : Int) (hm : most ≤ 1000) (bs : List UInt8) (pl : Int) (hpl : 0 ≤ pl ∧ pl + bs.length ≤ 1000000) :
    Ct Tryz.prog 141 #[rdg q,.int .i64 least,.int .i64 most,.func (.func f) fs.toArray cs.toArray] [RdB q bs pl,A] (RdE (vR least most rd bs pl) q (sevE er) sevV (SevR 3 c R) A) := by
  have cp := place_B q bs pl
  have c1 := rnum11_c q bs pl most hpl (by omega)
  refine yE (vs := [_,_,_,_]) Tryz.func141 rfl Tryz.ntmps141 (by simp) ?_
  repeat (first|(first|refine zB ?_|refine zE ?_|refine zG ?_)|(first|((first|refine zA rfl ?_);first|refine zD rfl rfl ?_|refine zC rfl rfl ?_|refine zF rfl rfl ?_|refine zH rfl rfl ?_|refine zU rfl (by rfl) rfl ?_|refine yN rfl rfl (fun r => ?_)|refine zN rfl (cp) rfl ?_)))
  revert r
  intro r4
  refine JL_heap emp_in ?_
  refine zA rfl (wR rfl c1 rfl (fun n bs1 pl1 y g1 hy => ?_) (fun c a qf g1 => vG (by unfold vR;rw [g1];rfl)))
  obtain rfl : y = n := hy
  have p1 := uN _ _ _ _ _ _ g1
  have p2 := numR_le g1
  by_cases hle : (y : Int) < least
  · have e0 : vR least most rd bs pl = .bad 2 pl := by unfold vR;rw [g1,bind_ok,if_pos hle]
    repeat (first|(first|refine zB ?_|refine zE ?_|refine zG ?_|refine zL rfl ?_)|(first|((first|refine zA rfl ?_);first|refine JOq (yH rfl rfl (by omega)) rfl ?_|refine yG (cs := [.int .i64 2,.int .i64 pl]) rfl rfl rfl ?_|refine yG (cs := [xH _]) rfl rfl rfl ?_|refine JO_panic rfl ?_|refine zD rfl rfl ?_|refine zC rfl rfl ?_|refine yN rfl rfl (fun r => ?_)|refine vD (by simp) rfl rfl ?_)))
    exact vG e0
  have e0 : vR least most rd bs pl = vB rd y bs1 pl1 := by unfold vR;rw [g1,bind_ok,if_neg hle]
  repeat (first|(first|refine zB ?_|refine zE ?_|refine zG ?_|refine zK ?_|refine zP ?_|refine zJ rfl ?_)|(first|((first|refine zA rfl ?_);first|refine JOq (yS rfl rfl (by omega)) rfl ?_|refine zD rfl rfl ?_|refine zC rfl rfl ?_)))
  refine xQ (all_nil (R := R)) ?_
  refine xQ (own0 (e := 62) (sz := 3)) ?_
  refine xQ (uZ (e := 3)) ?_
  refine xU (β := { z : Nat × (List β × Value) × (List Int × Value) × List UInt8 × Int // z.1 ≤ y ∧ z.2.1.1.length = z.1 ∧ z.2.2.1.1.length = z.1 ∧ z.2.1.2.oneCell' = true ∧ z.2.2.1.2.oneCell' = true ∧ (0 ≤ z.2.2.2.2 ∧ z.2.2.2.2 + z.2.2.2.1.length ≤ 1000000) ∧ vB rd y bs1 pl1 = preR (z.2.1.1.map er) z.2.2.1.1 (vB rd (y - z.1) z.2.2.2.1 z.2.2.2.2) }) (fun z => [(4,ptr r4),(3,.func (.func f) fs.toArray cs.toArray),(8,z.1.2.1.2),(9,z.1.2.2.1.2),(27,.int .i64 (y : Int)),(28,.int .i64 (z.1.1 : Int))]) (fun _ => []) (fun z => [yC 62 3 z.1.2.1.2 z.1.2.1.1.length (z.1.2.1.1.flatMap c),yB R z.1.2.1.1,yC 3 1 z.1.2.2.1.2 z.1.2.2.1.1.length (ints z.1.2.2.1.1),RdB q z.1.2.2.2.1 z.1.2.2.2.2,A,pt r4 (.cells #[ptr q] 159 (0,0))]) (fun z => y - z.1.1) ⟨(0,([],.slice none 0 0),([],.slice none 0 0),bs1,pl1),by simp,rfl,rfl,rfl,rfl,by simp only;omega,by simp [preR_nil]⟩ ?_ rfl ?_ ?_
  · (repeat (first|exact zM _|refine zI rfl ?_))
  · simp only [List.flatMap_nil,List.length_nil]
    exact Ent.sel
  rintro ⟨⟨i,⟨ys,v1⟩,⟨ps,v2⟩,b,p⟩,k1,k2,k3,k4,k5,k6,k7⟩
  dsimp only at k1 k2 k3 k4 k5 k6 k7 ⊢
  by_cases hi : i < y
  · obtain ⟨k,hk⟩ : ∃ k,y - i = k + 1 := ⟨y - i - 1,by omega⟩
    rw [hk] at k7
    have cp := place_B q b p
    have cl := hl b p k6
    repeat (first|(first|refine zB ?_|refine zE ?_|refine zG ?_|refine zK ?_|refine zP ?_|refine zL rfl ?_)|(first|((first|refine zA rfl ?_);first|refine JOq (yH rfl rfl (by omega)) rfl ?_|refine zD rfl rfl ?_|refine zF rfl rfl ?_|refine zH rfl rfl ?_|refine yP rfl rfl rfl (by decide) rfl (fun r => ?_)|refine zN rfl (cp) rfl ?_)))
    refine zA rfl (wM (sz := 1) (n := ps.length) (m := 1) (news := [.int .i64 p]) rfl rfl wL rfl (by decide) rfl (by simp [Value.oneCell']) (Nat.le_trans (Nat.mul_le_mul_right _ (show ps.length + 1 ≤ 1001 by omega)) (by decide)) (by decide) rfl fun v2' hv2' => ?_)
    repeat (first|(first|refine zB ?_|refine zE ?_)|(first|((first|refine zA rfl ?_);first|refine zD rfl rfl ?_|refine zC rfl rfl ?_)))
    refine zA rfl (JO_callCR rfl rfl cl rfl (fun x bs2 pl2 z g2 hz => ?_) (fun c a qf g2 => vG (by rw [e0,k7];exact preR_bad g2 _ _)))
    have p3 := hgood _ _ _ _ _ g2
    refine zA rfl (yP (n := 3) (vs := [.agg (c z).toArray]) (cs := c z) rfl rfl (hc := cat_agg1 3 (c z) (hsz z)) rfl (by decide) rfl (fun r9 => ?_))
    refine zA rfl (wM (sz := 3) (n := ys.length) (m := 1) (news := c z) rfl rfl wL rfl (by decide) (by rw [hsz]) (h1 z) (Nat.le_trans (Nat.mul_le_mul_right _ (show ys.length + 1 ≤ 1001 by omega)) (by decide)) (by decide) rfl fun v1' hv1' => ?_)
    repeat (first|(first|refine zB ?_|refine zE ?_)|(first|((first|refine zA rfl ?_);first|refine yZ (b := 1) rfl rfl (by omega) rfl ?_|refine zD rfl rfl ?_|refine zC rfl rfl ?_)))
    refine ⟨⟨(i + 1,(ys ++ [z],v1'),(ps ++ [p],v2'),bs2,pl2),by simp only;omega,by simp only [List.length_append,List.length_singleton];omega,by simp only [List.length_append,List.length_singleton];omega,hv1',hv2',by simp only;omega,?_⟩,by simp only;omega,by (repeat (first|exact zM _|refine zI rfl ?_)),rfl,?_⟩
    · simp only
      rw [k7,preR_ok g2,List.map_append,List.map_singleton,hz,show y - (i + 1) = k by omega]
    · simp only [List.flatMap_append,List.flatMap_singleton,List.length_append,List.length_singleton,ints_snoc]
      exact (Ent.sel (K := [yB R ys,R z,yC 62 3 v1' (ys.length + 1) (ys.flatMap c ++ c z),yC 3 1 v2' (ps.length + 1) (ints ps ++ [.int .i64 p]),RdB q bs2 pl2,A,pt r4 (.cells #[ptr q] 159 (0,0))])).trans ((all_snoc hup).trans Ent.sel)
  obtain rfl : i = y := by omega
  rw [Nat.sub_self] at k7
  have k8 : vB rd i bs1 pl1 = .ok (ys.map er,ps) b p := by rw [k7];unfold vB;simp [preR]
  refine wQ (yC 3 1 v2 ps.length (ints ps)) ?_
  refine uU (fun p2 cap2 hv2 hc2 => ?_)
  subst hv2
  refine wQ (yC 62 3 v1 ys.length (ys.flatMap c)) ?_
  refine uU (fun p1 cap1 hv1 hc1 => ?_)
  subst hv1
  repeat (first|(first|refine zB ?_|refine zE ?_|refine zG ?_|refine zJ rfl ?_|refine xA ?_|refine zV ?_)|(first|((first|refine zA rfl ?_);first|refine JOq (yS rfl rfl (by omega)) rfl ?_|refine zD rfl rfl ?_|refine zC rfl rfl ?_)))
  refine tN (res_two rfl rfl rfl) (e0.trans k8) ⟨ys,(p1,cap1),ps,(p2,cap2)⟩ rfl rfl ?_
  exact (Ent.sel (K := [Vw 3 (.slice p1 ys.length cap1) ys.length (ys.flatMap c),yB R ys,Vw 1 (.slice p2 ps.length cap2) ps.length (ints ps),RdB q b p,A])).trans ((ent_conj (A := SevR 3 c R ⟨ys,(p1,cap1),ps,(p2,cap2)⟩) (M := [Vw 3 (.slice p1 ys.length cap1) ys.length (ys.flatMap c),yB R ys,Vw 1 (.slice p2 ps.length cap2) ps.length (ints ps)]) (fun B hB => by
    simp only [List.mem_cons,List.not_mem_nil,or_false] at hB
    rcases hB with rfl | rfl | rfl
    · exact up_vw _ _ _ _
    · exact up_all hup _
    · exact up_vw _ _ _ _) (fun k hk => ⟨⟨hc1,hc2⟩,hk _ (by simp),hk _ (by simp),hk _ (by simp)⟩)).trans Ent.sel)
set_option maxHeartbeats 2000000 in
theorem severalInsn_c (hsz : ∀ x,(c x).length = 6) (h1 : ∀ x,∀ v ∈ c x,v.oneCell' = true) (hup : ∀ y,Up (R y)) (hgood : GoodR rd) (q : Nat) (hl : ∀ (bs : List UInt8) (pl : Int),0 ≤ pl ∧ pl + bs.length ≤ 1000000 → Ct Tryz.prog f (fs ++ [] ++ cs).toArray [RdB q bs pl,A] (RdE (rd bs pl) q er (fun y => .agg (c y).toArray) R A))
    (least most : Int) (hm : most ≤ 1000) (bs : List UInt8) (pl : Int) (hpl : 0 ≤ pl ∧ pl + bs.length ≤ 1000000) :
    Ct Tryz.prog 143 #[rdg q,.int .i64 least,.int .i64 most,.func (.func f) fs.toArray cs.toArray] [RdB q bs pl,A] (RdE (vR least most rd bs pl) q (sevE er) sevV (SevR 6 c R) A) := by
  have cp := place_B q bs pl
  have c1 := rnum11_c q bs pl most hpl (by omega)
  refine yE (vs := [_,_,_,_]) Tryz.func143 rfl Tryz.ntmps143 (by simp) ?_
  repeat (first|(first|refine zB ?_|refine zE ?_|refine zG ?_)|(first|((first|refine zA rfl ?_);first|refine zD rfl rfl ?_|refine zC rfl rfl ?_|refine zF rfl rfl ?_|refine zH rfl rfl ?_|refine zU rfl (by rfl) rfl ?_|refine yN rfl rfl (fun r => ?_)|refine zN rfl (cp) rfl ?_)))
  revert r
  intro r4
  refine JL_heap emp_in ?_
  refine zA rfl (wR rfl c1 rfl (fun n bs1 pl1 y g1 hy => ?_) (fun c a qf g1 => vG (by unfold vR;rw [g1];rfl)))
  obtain rfl : y = n := hy
  have p1 := uN _ _ _ _ _ _ g1
  have p2 := numR_le g1
  by_cases hle : (y : Int) < least
  · have e0 : vR least most rd bs pl = .bad 2 pl := by unfold vR;rw [g1,bind_ok,if_pos hle]
    repeat (first|(first|refine zB ?_|refine zE ?_|refine zG ?_|refine zL rfl ?_)|(first|((first|refine zA rfl ?_);first|refine JOq (yH rfl rfl (by omega)) rfl ?_|refine yG (cs := [.int .i64 2,.int .i64 pl]) rfl rfl rfl ?_|refine yG (cs := [xH _]) rfl rfl rfl ?_|refine JO_panic rfl ?_|refine zD rfl rfl ?_|refine zC rfl rfl ?_|refine yN rfl rfl (fun r => ?_)|refine vD (by simp) rfl rfl ?_)))
    exact vG e0
  have e0 : vR least most rd bs pl = vB rd y bs1 pl1 := by unfold vR;rw [g1,bind_ok,if_neg hle]
  repeat (first|(first|refine zB ?_|refine zE ?_|refine zG ?_|refine zK ?_|refine zP ?_|refine zJ rfl ?_)|(first|((first|refine zA rfl ?_);first|refine JOq (yS rfl rfl (by omega)) rfl ?_|refine zD rfl rfl ?_|refine zC rfl rfl ?_)))
  refine xQ (all_nil (R := R)) ?_
  refine xQ (own0 (e := 52) (sz := 6)) ?_
  refine xQ (uZ (e := 3)) ?_
  refine xU (β := { z : Nat × (List β × Value) × (List Int × Value) × List UInt8 × Int // z.1 ≤ y ∧ z.2.1.1.length = z.1 ∧ z.2.2.1.1.length = z.1 ∧ z.2.1.2.oneCell' = true ∧ z.2.2.1.2.oneCell' = true ∧ (0 ≤ z.2.2.2.2 ∧ z.2.2.2.2 + z.2.2.2.1.length ≤ 1000000) ∧ vB rd y bs1 pl1 = preR (z.2.1.1.map er) z.2.2.1.1 (vB rd (y - z.1) z.2.2.2.1 z.2.2.2.2) }) (fun z => [(4,ptr r4),(3,.func (.func f) fs.toArray cs.toArray),(8,z.1.2.1.2),(9,z.1.2.2.1.2),(27,.int .i64 (y : Int)),(28,.int .i64 (z.1.1 : Int))]) (fun _ => []) (fun z => [yC 52 6 z.1.2.1.2 z.1.2.1.1.length (z.1.2.1.1.flatMap c),yB R z.1.2.1.1,yC 3 1 z.1.2.2.1.2 z.1.2.2.1.1.length (ints z.1.2.2.1.1),RdB q z.1.2.2.2.1 z.1.2.2.2.2,A,pt r4 (.cells #[ptr q] 159 (0,0))]) (fun z => y - z.1.1) ⟨(0,([],.slice none 0 0),([],.slice none 0 0),bs1,pl1),by simp,rfl,rfl,rfl,rfl,by simp only;omega,by simp [preR_nil]⟩ ?_ rfl ?_ ?_
  · (repeat (first|exact zM _|refine zI rfl ?_))
  · simp only [List.flatMap_nil,List.length_nil]
    exact Ent.sel
  rintro ⟨⟨i,⟨ys,v1⟩,⟨ps,v2⟩,b,p⟩,k1,k2,k3,k4,k5,k6,k7⟩
  dsimp only at k1 k2 k3 k4 k5 k6 k7 ⊢
  by_cases hi : i < y
  · obtain ⟨k,hk⟩ : ∃ k,y - i = k + 1 := ⟨y - i - 1,by omega⟩
    rw [hk] at k7
    have cp := place_B q b p
    have cl := hl b p k6
    repeat (first|(first|refine zB ?_|refine zE ?_|refine zG ?_|refine zK ?_|refine zP ?_|refine zL rfl ?_)|(first|((first|refine zA rfl ?_);first|refine JOq (yH rfl rfl (by omega)) rfl ?_|refine zD rfl rfl ?_|refine zF rfl rfl ?_|refine zH rfl rfl ?_|refine yP rfl rfl rfl (by decide) rfl (fun r => ?_)|refine zN rfl (cp) rfl ?_)))
    refine zA rfl (wM (sz := 1) (n := ps.length) (m := 1) (news := [.int .i64 p]) rfl rfl wL rfl (by decide) rfl (by simp [Value.oneCell']) (Nat.le_trans (Nat.mul_le_mul_right _ (show ps.length + 1 ≤ 1001 by omega)) (by decide)) (by decide) rfl fun v2' hv2' => ?_)
    repeat (first|(first|refine zB ?_|refine zE ?_)|(first|((first|refine zA rfl ?_);first|refine zD rfl rfl ?_|refine zC rfl rfl ?_)))
    refine zA rfl (JO_callCR rfl rfl cl rfl (fun x bs2 pl2 z g2 hz => ?_) (fun c a qf g2 => vG (by rw [e0,k7];exact preR_bad g2 _ _)))
    have p3 := hgood _ _ _ _ _ g2
    refine zA rfl (yP (n := 6) (vs := [.agg (c z).toArray]) (cs := c z) rfl rfl (hc := cat_agg1 6 (c z) (hsz z)) rfl (by decide) rfl (fun r9 => ?_))
    refine zA rfl (wM (sz := 6) (n := ys.length) (m := 1) (news := c z) rfl rfl wL rfl (by decide) (by rw [hsz]) (h1 z) (Nat.le_trans (Nat.mul_le_mul_right _ (show ys.length + 1 ≤ 1001 by omega)) (by decide)) (by decide) rfl fun v1' hv1' => ?_)
    repeat (first|(first|refine zB ?_|refine zE ?_)|(first|((first|refine zA rfl ?_);first|refine yZ (b := 1) rfl rfl (by omega) rfl ?_|refine zD rfl rfl ?_|refine zC rfl rfl ?_)))
    refine ⟨⟨(i + 1,(ys ++ [z],v1'),(ps ++ [p],v2'),bs2,pl2),by simp only;omega,by simp only [List.length_append,List.length_singleton];omega,by simp only [List.length_append,List.length_singleton];omega,hv1',hv2',by simp only;omega,?_⟩,by simp only;omega,by (repeat (first|exact zM _|refine zI rfl ?_)),rfl,?_⟩
    · simp only
      rw [k7,preR_ok g2,List.map_append,List.map_singleton,hz,show y - (i + 1) = k by omega]
    · simp only [List.flatMap_append,List.flatMap_singleton,List.length_append,List.length_singleton,ints_snoc]
      exact (Ent.sel (K := [yB R ys,R z,yC 52 6 v1' (ys.length + 1) (ys.flatMap c ++ c z),yC 3 1 v2' (ps.length + 1) (ints ps ++ [.int .i64 p]),RdB q bs2 pl2,A,pt r4 (.cells #[ptr q] 159 (0,0))])).trans ((all_snoc hup).trans Ent.sel)
  obtain rfl : i = y := by omega
  rw [Nat.sub_self] at k7
  have k8 : vB rd i bs1 pl1 = .ok (ys.map er,ps) b p := by rw [k7];unfold vB;simp [preR]
  refine wQ (yC 3 1 v2 ps.length (ints ps)) ?_
  refine uU (fun p2 cap2 hv2 hc2 => ?_)
  subst hv2
  refine wQ (yC 52 6 v1 ys.length (ys.flatMap c)) ?_
  refine uU (fun p1 cap1 hv1 hc1 => ?_)
  subst hv1
  repeat (first|(first|refine zB ?_|refine zE ?_|refine zG ?_|refine zJ rfl ?_|refine xA ?_|refine zV ?_)|(first|((first|refine zA rfl ?_);first|refine JOq (yS rfl rfl (by omega)) rfl ?_|refine zD rfl rfl ?_|refine zC rfl rfl ?_)))
  refine tN (res_two rfl rfl rfl) (e0.trans k8) ⟨ys,(p1,cap1),ps,(p2,cap2)⟩ rfl rfl ?_
  exact (Ent.sel (K := [Vw 6 (.slice p1 ys.length cap1) ys.length (ys.flatMap c),yB R ys,Vw 1 (.slice p2 ps.length cap2) ps.length (ints ps),RdB q b p,A])).trans ((ent_conj (A := SevR 6 c R ⟨ys,(p1,cap1),ps,(p2,cap2)⟩) (M := [Vw 6 (.slice p1 ys.length cap1) ys.length (ys.flatMap c),yB R ys,Vw 1 (.slice p2 ps.length cap2) ps.length (ints ps)]) (fun B hB => by
    simp only [List.mem_cons,List.not_mem_nil,or_false] at hB
    rcases hB with rfl | rfl | rfl
    · exact up_vw _ _ _ _
    · exact up_all hup _
    · exact up_vw _ _ _ _) (fun k hk => ⟨⟨hc1,hc2⟩,hk _ (by simp),hk _ (by simp),hk _ (by simp)⟩)).trans Ent.sel)
set_option maxHeartbeats 2000000 in
theorem severalArg_c (hsz : ∀ x,(c x).length = 3) (h1 : ∀ x,∀ v ∈ c x,v.oneCell' = true) (hup : ∀ y,Up (R y)) (hgood : GoodR rd) (q : Nat) (hl : ∀ (bs : List UInt8) (pl : Int),0 ≤ pl ∧ pl + bs.length ≤ 1000000 → Ct Tryz.prog f (fs ++ [] ++ cs).toArray [RdB q bs pl,A] (RdE (rd bs pl) q er (fun y => .agg (c y).toArray) R A))
    (least most : Int) (hm : most ≤ 1000) (bs : List UInt8) (pl : Int) (hpl : 0 ≤ pl ∧ pl + bs.length ≤ 1000000) :
    Ct Tryz.prog 147 #[rdg q,.int .i64 least,.int .i64 most,.func (.func f) fs.toArray cs.toArray] [RdB q bs pl,A] (RdE (vR least most rd bs pl) q (sevE er) sevV (SevR 3 c R) A) := by
  have cp := place_B q bs pl
  have c1 := rnum11_c q bs pl most hpl (by omega)
  refine yE (vs := [_,_,_,_]) Tryz.func147 rfl Tryz.ntmps147 (by simp) ?_
  repeat (first|(first|refine zB ?_|refine zE ?_|refine zG ?_)|(first|((first|refine zA rfl ?_);first|refine zD rfl rfl ?_|refine zC rfl rfl ?_|refine zF rfl rfl ?_|refine zH rfl rfl ?_|refine zU rfl (by rfl) rfl ?_|refine yN rfl rfl (fun r => ?_)|refine zN rfl (cp) rfl ?_)))
  revert r
  intro r4
  refine JL_heap emp_in ?_
  refine zA rfl (wR rfl c1 rfl (fun n bs1 pl1 y g1 hy => ?_) (fun c a qf g1 => vG (by unfold vR;rw [g1];rfl)))
  obtain rfl : y = n := hy
  have p1 := uN _ _ _ _ _ _ g1
  have p2 := numR_le g1
  by_cases hle : (y : Int) < least
  · have e0 : vR least most rd bs pl = .bad 2 pl := by unfold vR;rw [g1,bind_ok,if_pos hle]
    repeat (first|(first|refine zB ?_|refine zE ?_|refine zG ?_|refine zL rfl ?_)|(first|((first|refine zA rfl ?_);first|refine JOq (yH rfl rfl (by omega)) rfl ?_|refine yG (cs := [.int .i64 2,.int .i64 pl]) rfl rfl rfl ?_|refine yG (cs := [xH _]) rfl rfl rfl ?_|refine JO_panic rfl ?_|refine zD rfl rfl ?_|refine zC rfl rfl ?_|refine yN rfl rfl (fun r => ?_)|refine vD (by simp) rfl rfl ?_)))
    exact vG e0
  have e0 : vR least most rd bs pl = vB rd y bs1 pl1 := by unfold vR;rw [g1,bind_ok,if_neg hle]
  repeat (first|(first|refine zB ?_|refine zE ?_|refine zG ?_|refine zK ?_|refine zP ?_|refine zJ rfl ?_)|(first|((first|refine zA rfl ?_);first|refine JOq (yS rfl rfl (by omega)) rfl ?_|refine zD rfl rfl ?_|refine zC rfl rfl ?_)))
  refine xQ (all_nil (R := R)) ?_
  refine xQ (own0 (e := 64) (sz := 3)) ?_
  refine xQ (uZ (e := 3)) ?_
  refine xU (β := { z : Nat × (List β × Value) × (List Int × Value) × List UInt8 × Int // z.1 ≤ y ∧ z.2.1.1.length = z.1 ∧ z.2.2.1.1.length = z.1 ∧ z.2.1.2.oneCell' = true ∧ z.2.2.1.2.oneCell' = true ∧ (0 ≤ z.2.2.2.2 ∧ z.2.2.2.2 + z.2.2.2.1.length ≤ 1000000) ∧ vB rd y bs1 pl1 = preR (z.2.1.1.map er) z.2.2.1.1 (vB rd (y - z.1) z.2.2.2.1 z.2.2.2.2) }) (fun z => [(4,ptr r4),(3,.func (.func f) fs.toArray cs.toArray),(8,z.1.2.1.2),(9,z.1.2.2.1.2),(27,.int .i64 (y : Int)),(28,.int .i64 (z.1.1 : Int))]) (fun _ => []) (fun z => [yC 64 3 z.1.2.1.2 z.1.2.1.1.length (z.1.2.1.1.flatMap c),yB R z.1.2.1.1,yC 3 1 z.1.2.2.1.2 z.1.2.2.1.1.length (ints z.1.2.2.1.1),RdB q z.1.2.2.2.1 z.1.2.2.2.2,A,pt r4 (.cells #[ptr q] 159 (0,0))]) (fun z => y - z.1.1) ⟨(0,([],.slice none 0 0),([],.slice none 0 0),bs1,pl1),by simp,rfl,rfl,rfl,rfl,by simp only;omega,by simp [preR_nil]⟩ ?_ rfl ?_ ?_
  · (repeat (first|exact zM _|refine zI rfl ?_))
  · simp only [List.flatMap_nil,List.length_nil]
    exact Ent.sel
  rintro ⟨⟨i,⟨ys,v1⟩,⟨ps,v2⟩,b,p⟩,k1,k2,k3,k4,k5,k6,k7⟩
  dsimp only at k1 k2 k3 k4 k5 k6 k7 ⊢
  by_cases hi : i < y
  · obtain ⟨k,hk⟩ : ∃ k,y - i = k + 1 := ⟨y - i - 1,by omega⟩
    rw [hk] at k7
    have cp := place_B q b p
    have cl := hl b p k6
    repeat (first|(first|refine zB ?_|refine zE ?_|refine zG ?_|refine zK ?_|refine zP ?_|refine zL rfl ?_)|(first|((first|refine zA rfl ?_);first|refine JOq (yH rfl rfl (by omega)) rfl ?_|refine zD rfl rfl ?_|refine zF rfl rfl ?_|refine zH rfl rfl ?_|refine yP rfl rfl rfl (by decide) rfl (fun r => ?_)|refine zN rfl (cp) rfl ?_)))
    refine zA rfl (wM (sz := 1) (n := ps.length) (m := 1) (news := [.int .i64 p]) rfl rfl wL rfl (by decide) rfl (by simp [Value.oneCell']) (Nat.le_trans (Nat.mul_le_mul_right _ (show ps.length + 1 ≤ 1001 by omega)) (by decide)) (by decide) rfl fun v2' hv2' => ?_)
    repeat (first|(first|refine zB ?_|refine zE ?_)|(first|((first|refine zA rfl ?_);first|refine zD rfl rfl ?_|refine zC rfl rfl ?_)))
    refine zA rfl (JO_callCR rfl rfl cl rfl (fun x bs2 pl2 z g2 hz => ?_) (fun c a qf g2 => vG (by rw [e0,k7];exact preR_bad g2 _ _)))
    have p3 := hgood _ _ _ _ _ g2
    refine zA rfl (yP (n := 3) (vs := [.agg (c z).toArray]) (cs := c z) rfl rfl (hc := cat_agg1 3 (c z) (hsz z)) rfl (by decide) rfl (fun r9 => ?_))
    refine zA rfl (wM (sz := 3) (n := ys.length) (m := 1) (news := c z) rfl rfl wL rfl (by decide) (by rw [hsz]) (h1 z) (Nat.le_trans (Nat.mul_le_mul_right _ (show ys.length + 1 ≤ 1001 by omega)) (by decide)) (by decide) rfl fun v1' hv1' => ?_)
    repeat (first|(first|refine zB ?_|refine zE ?_)|(first|((first|refine zA rfl ?_);first|refine yZ (b := 1) rfl rfl (by omega) rfl ?_|refine zD rfl rfl ?_|refine zC rfl rfl ?_)))
    refine ⟨⟨(i + 1,(ys ++ [z],v1'),(ps ++ [p],v2'),bs2,pl2),by simp only;omega,by simp only [List.length_append,List.length_singleton];omega,by simp only [List.length_append,List.length_singleton];omega,hv1',hv2',by simp only;omega,?_⟩,by simp only;omega,by (repeat (first|exact zM _|refine zI rfl ?_)),rfl,?_⟩
    · simp only
      rw [k7,preR_ok g2,List.map_append,List.map_singleton,hz,show y - (i + 1) = k by omega]
    · simp only [List.flatMap_append,List.flatMap_singleton,List.length_append,List.length_singleton,ints_snoc]
      exact (Ent.sel (K := [yB R ys,R z,yC 64 3 v1' (ys.length + 1) (ys.flatMap c ++ c z),yC 3 1 v2' (ps.length + 1) (ints ps ++ [.int .i64 p]),RdB q bs2 pl2,A,pt r4 (.cells #[ptr q] 159 (0,0))])).trans ((all_snoc hup).trans Ent.sel)
  obtain rfl : i = y := by omega
  rw [Nat.sub_self] at k7
  have k8 : vB rd i bs1 pl1 = .ok (ys.map er,ps) b p := by rw [k7];unfold vB;simp [preR]
  refine wQ (yC 3 1 v2 ps.length (ints ps)) ?_
  refine uU (fun p2 cap2 hv2 hc2 => ?_)
  subst hv2
  refine wQ (yC 64 3 v1 ys.length (ys.flatMap c)) ?_
  refine uU (fun p1 cap1 hv1 hc1 => ?_)
  subst hv1
  repeat (first|(first|refine zB ?_|refine zE ?_|refine zG ?_|refine zJ rfl ?_|refine xA ?_|refine zV ?_)|(first|((first|refine zA rfl ?_);first|refine JOq (yS rfl rfl (by omega)) rfl ?_|refine zD rfl rfl ?_|refine zC rfl rfl ?_)))
  refine tN (res_two rfl rfl rfl) (e0.trans k8) ⟨ys,(p1,cap1),ps,(p2,cap2)⟩ rfl rfl ?_
  exact (Ent.sel (K := [Vw 3 (.slice p1 ys.length cap1) ys.length (ys.flatMap c),yB R ys,Vw 1 (.slice p2 ps.length cap2) ps.length (ints ps),RdB q b p,A])).trans ((ent_conj (A := SevR 3 c R ⟨ys,(p1,cap1),ps,(p2,cap2)⟩) (M := [Vw 3 (.slice p1 ys.length cap1) ys.length (ys.flatMap c),yB R ys,Vw 1 (.slice p2 ps.length cap2) ps.length (ints ps)]) (fun B hB => by
    simp only [List.mem_cons,List.not_mem_nil,or_false] at hB
    rcases hB with rfl | rfl | rfl
    · exact up_vw _ _ _ _
    · exact up_all hup _
    · exact up_vw _ _ _ _) (fun k hk => ⟨⟨hc1,hc2⟩,hk _ (by simp),hk _ (by simp),hk _ (by simp)⟩)).trans Ent.sel)
end
end Go.Proofs.YtickblndgihoeaaGreatDoor
