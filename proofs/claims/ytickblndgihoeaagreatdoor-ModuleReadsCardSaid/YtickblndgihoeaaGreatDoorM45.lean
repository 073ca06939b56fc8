/- Layer 11: the document's Read. -/
import Derived.Test.YtickblndgihoeaaGreatDoorM41
import Derived.Test.YtickblndgihoeaaGreatDoorM44
set_option linter.unusedSimpArgs false
namespace Go.Proofs.YtickblndgihoeaaGreatDoor
open Go Go.Sp
def DRdP (r : RO Mdl) : Ending → List HP → Prop := fun e L => match r with
  | .ok m _ _ => ∃ m',erM m' = m ∧ e = .returned (.tuple #[.agg (vN m').toArray,uC 0 0]) ∧ L = [uK m']
  | .bad c a => c ≠ 0 ∧ e = .returned (.tuple #[.agg (vN vH).toArray,uC c a]) ∧ L = []
abbrev FB (r : Nat) (c a : Int) : HP := pt r (.cells [.int .i64 c,.int .i64 a].toArray 87 (0,0))
abbrev MB (m : Nat) (v0 v1 v2 v3 v4 v5 v6 v7 : Value) : HP := pt m (.cells [v0,v1,v2,v3,v4,v5,v6,v7].toArray 28 (0,0))
def Pk (L : List HP) : HP := fun k => Star L k
theorem pk_in {M L : List HP} : Ent (M ++ L) (Pk M :: L) := ent_join (A := Pk M) (M := M) fun _ h => h
theorem pk_out {M L : List HP} : Ent (Pk M :: L) (M ++ L) := ent_split (A := Pk M) (M := M) fun _ h => h
theorem cend_u (c e : Nat) (k q : Int) (b : List UInt8) (p : Int) (hg : GoodS k q b p) : Ct Tryz.prog 77 #[ptr c] [vU c e k q,DrB e b p] (RetE (fun z : Int × Int => OneS (rdS endR k q b p) () z.1 z.2 b p) (fun z => uC z.1 z.2) (fun z => [vU c e z.1 z.2,DrB e b p])) := by
  by_cases h : k = 0
  · subst h
    obtain ⟨rfl,hb⟩ := hg rfl
    refine (cend_c c e b p 0).mono fun _ _ ⟨he,hL⟩ => ⟨((endA b p).1,(endA b p).2),?_,he,hL⟩
    rw [rdS_0]
    unfold endA endR
    by_cases h0 : b.length = 0
    · simp only [h0,if_true]
      exact .inl ⟨rfl,rfl,by omega,rfl⟩
    · simp only [h0,if_false]
      exact .inr ⟨by decide,rfl⟩
  · exact (ct_more (DrB e b p) (cend_no c e k q h)).mono fun _ _ ⟨he,hL⟩ => ⟨(k,q),OneS.no h _ _,he,hL⟩
theorem sec_end {α β : Type} {M : RO α} {z : α} {k q fc fa p p' : Int} {b b' : List UInt8} (h1 : OneS M z k q b p) (h2 : OneS (rdS endR k q b p) () fc fa b' p') (G : α → Unit → Rdr β) : (M.bind fun z b p => (endR b p).bind (G z)) = rdS (G z ()) fc fa b' p' := by rw [h1.bind,rdS_bind,h2.bind]
noncomputable def tk4 (s : List UInt8) (z1 : List Nod × List Int) (z2 : List Tem × List Int) (z3 : List (Int × Int) × List Int) : Rdr Mdl := fun b3 p3 => (vR 0 8 staR b3 p3).bind fun z4 b4 p4 => (endR b4 p4).bind fun _ b p =>
    .ok ⟨z1.1,no0,z2.1,no0,z3.1,no0,z4.1,no0,z1.2,no0,z2.2,no0,z3.2,no0,z4.2,no0⟩ b p
noncomputable def tk3 (s : List UInt8) (z1 : List Nod × List Int) (z2 : List Tem × List Int) : RO Mdl := (vR 0 16 wO (s3A s).part (s3A s).at_).bind (tk4 s z1 z2)
noncomputable def tk2 (s : List UInt8) (z1 : List Nod × List Int) : RO Mdl := (vR 0 16 temR (s2A s).part (s2A s).at_).bind fun z2 b2 p2 => (endR b2 p2).bind fun _ _ _ => tk3 s z1 z2
theorem taken_tk {s : List UInt8} (hz : (tE s).1 = 0) : wZ s = (vR 0 64 uS (s1A s).part (s1A s).at_).bind fun z1 b1 p1 => (endR b1 p1).bind fun _ _ _ => tk2 s z1 := by
  unfold wZ
  rw [if_neg (by simpa using hz)]
  rfl
theorem dsplitB (bs : List UInt8) (hb : bs.length ≤ 1000000) (h : (tE bs).1 = 0) :
    Ct Tryz.prog 72 #[str bs] [] (RetE (fun _ : Nat × Nat × Nat => True) (fun x => .tuple #[ptr3 x,uC 0 (tE bs).2]) (fun x => [DrB x.1 (s1A bs).part (s1A bs).at_,DrB x.2.1 (s2A bs).part (s2A bs).at_,DrB x.2.2 (s3A bs).part (s3A bs).at_])) := by
  obtain ⟨q1,q2,q3⟩ := spl_parts hb h
  refine Ct.post (dsplit_ok bs hb h) fun _ _ ⟨x,hx,he,hL⟩ => ⟨_,?_,x,hx,he,rfl⟩
  rw [hL]
  dsimp only
  refine (drb_close (bs := (s1A bs).part) (pl := (s1A bs).at_) (k := 0) rfl (Nat.zero_le _) (by simp) (by simp) (by omega) (by omega)).trans ?_
  refine (Ent.sel (K := [Dr x.2.1 (s2A bs).part 0 (s2A bs).at_,DrB x.1 (s1A bs).part (s1A bs).at_,Dr x.2.2 (s3A bs).part 0 (s3A bs).at_])).trans ?_
  refine (drb_close (bs := (s2A bs).part) (pl := (s2A bs).at_) (k := 0) rfl (Nat.zero_le _) (by simp) (by simp) (by omega) (by omega)).trans ?_
  refine (Ent.sel (K := [Dr x.2.2 (s3A bs).part 0 (s3A bs).at_,DrB x.1 (s1A bs).part (s1A bs).at_,DrB x.2.1 (s2A bs).part (s2A bs).at_])).trans ?_
  exact (drb_close (bs := (s3A bs).part) (pl := (s3A bs).at_) (k := 0) rfl (Nat.zero_le _) (by simp) (by simp) (by omega) (by omega)).trans Ent.sel
theorem sta_facts {k1 q1 p1 k q p fa p' : Int} {b1 b b' : List UInt8} {M : RO (List Sta × List Int)} {ss : List Sta} {ps : List Int} (hM : rdS (vR 0 8 staR) k1 q1 b1 p1 = M) (ho : OneS M (ss.map erS,ps) k q b p) (hE : OneS (rdS endR k q b p) () 0 fa b' p') : ∀ z ∈ ss,∀ x ∈ z.args,arOk x := by
  have hk : k = 0 := Decidable.byContradiction fun h => by
    rcases hE with ⟨_,_,_,h4⟩ | ⟨h4,_⟩
    · rw [rdS_no _ h] at h4;cases h4
    · exact h4 rfl
  rcases ho with ⟨_,_,_,h4⟩ | ⟨h4,_⟩
  · subst hM
    unfold rdS at h4
    split at h4
    · intro z hz
      obtain ⟨_,_,_,_,h⟩ := sev_mem h4 (erS z) (List.mem_map_of_mem hz)
      exact staR_ok (s := erS z) h
    · cases h4
  · exact absurd hk h4
attribute [local irreducible] callFunc Go.method J JL JO JR JR1 JRl Ct JG JM JM1 JW JW1 JQ JQ0 JS CtD xB by8 DrB smA uA uM wO someR wholeR vB vR temR staR prmR arR insnR uE uT wS yB ints uS wZ tE s1A s2A s3A uK tk2 tk3 tk4 Pk
theorem dread11_no (s : List UInt8) (hs : s.length ≤ 1000000) (hz : (tE s).1 ≠ 0) : Ct Tryz.prog 31 #[str s] [] (DRdP (wZ s)) := by
  have c1 := dsplit_bad s hs hz
  have h0 : wZ s = .bad (tE s).1 (tE s).2 := by unfold wZ;rw [if_pos hz]
  rw [h0]
  generalize (tE s).1 = fc at *
  generalize (tE s).2 = fa at *
  refine yE (vs := [_]) Tryz.func31 rfl Tryz.ntmps31 (by simp) ?_
  repeat (first|(first|refine zB ?_|refine zE ?_|refine zG ?_|refine zL rfl ?_)|(first|((first|refine zA rfl ?_);first|refine JOq (vS rfl rfl (by omega)) rfl ?_|refine zO rfl rfl (by rfl) (by rfl) (by simp [Value.oneCell']) rfl ?_|refine zD rfl rfl ?_|refine zF rfl rfl ?_|refine zH rfl rfl ?_|refine zT rfl rfl rfl ?_|refine zS rfl (fun r => ?_)|refine zR rfl (c1) rfl ?_)))
  refine tG none [pt r (.cells [.int .i64 fc,.int .i64 fa].toArray 87 (0,0))] Ent.sel ?_
  repeat' (first|refine JW_fin rfl ?_|refine JW_only rfl ?_|refine JW_two rfl ?_ ?_|refine vV rfl rfl (yG (cs := vN vH) rfl rfl rfl ⟨by first|exact (fun _ => Ent.sel),?_⟩)|refine vV rfl rfl (zU rfl (by rfl) rfl ⟨by first|exact (fun _ => Ent.sel),?_⟩)|refine vV rfl rfl (zO rfl rfl (by rfl) (by rfl) (by simp [Value.oneCell']) rfl ⟨by first|exact (fun _ => Ent.sel),?_⟩))
  all_goals (refine zV ?_;exact ⟨rfl,_,uO rfl (yV (n := 8) rfl rfl) (yV (n := 2) rfl rfl),[],.nil,hz,rfl,rfl⟩)
set_option synthInstance.maxHeartbeats 400000 in
set_option synthInstance.maxSize 2000 in
set_option maxRecDepth 8000 in
set_option maxHeartbeats 16000000 in
theorem dread11_ok (s : List UInt8) (hs : s.length ≤ 1000000) (hz : (tE s).1 = 0) : Ct Tryz.prog 31 #[str s] [] (DRdP (wZ s)) := by
  have cs := dsplitB s hs hz
  obtain ⟨hp1,hp2,hp3⟩ := spl_parts hs hz
  have hT := taken_tk hz
  generalize hR : wZ s = RR at hT
  generalize (tE s).2 = f0 at cs
  refine yE (vs := [_]) Tryz.func31 rfl Tryz.ntmps31 (by simp) ?_
  repeat (first|(first|refine zB ?_|refine zE ?_|refine zG ?_)|(first|((first|refine zA rfl ?_);first|refine zD rfl rfl ?_|refine zS rfl (fun r => ?_))))
  rename_i n2
  revert r
  intro n3
  refine zA rfl (yK rfl cs rfl (fun z _ => ?_))
  obtain ⟨r1,r2,r3⟩ := z
  dsimp only
  repeat (first|(first|refine zB ?_|refine zE ?_|refine zG ?_|refine zP ?_|refine zJ rfl ?_)|(first|((first|refine zA rfl ?_);first|refine JOq (vW rfl rfl (by omega)) rfl ?_|refine zO rfl rfl (by rfl) (by rfl) (by simp [Value.oneCell']) rfl ?_|refine JOq (yR 0 (j := 0) rfl rfl (by decide) rfl) rfl ?_|refine JOq (yR 1 (j := 1) rfl rfl (by decide) rfl) rfl ?_|refine JOq (yR 2 (j := 2) rfl rfl (by decide) rfl) rfl ?_|refine yG (cs := [ptr r1,.int .i64 0,.int .i64 0]) rfl rfl rfl ?_|refine zD rfl rfl ?_|refine zC rfl rfl ?_|refine zF rfl rfl ?_|refine zH rfl rfl ?_|refine zT rfl rfl rfl ?_|refine yN rfl rfl (fun r => ?_)|refine zS rfl (fun r => ?_))))
  rename_i n4 n5 n6
  revert r
  intro c1
  have c1 := cnum_u c1 r1 0 0 64 (s1A s).part (s1A s).at_ (by decide) (.ok (by omega))
  repeat (first|(first|refine zB ?_)|(first|((first|refine zA rfl ?_);first|refine zD rfl rfl ?_)))
  refine zA rfl (yK rfl c1 rfl (fun z hz => ?_))
  obtain ⟨n,k,q,b,p⟩ := z
  obtain ⟨h1,hn⟩ := hz
  dsimp only [id] at h1 hn ⊢
  have hm := any_many (rd := uS) h1
  have hg := h1.good
  clear c1 h1
  repeat (first|(first|refine zB ?_|refine zE ?_|refine zG ?_)|(first|((first|refine zA rfl ?_);first|refine zC rfl rfl ?_)))
  rw [rdS_0] at hm
  generalize hM : vR 0 64 uS (s1A s).part (s1A s).at_ = M at hm hT
  refine xQ (L' := [DrB r2 (s2A s).part (s2A s).at_,DrB r3 (s3A s).part (s3A s).at_,pt n2 (.cells (vN vH).toArray 28 (0,0)),FB n3 0 0,pt n4 (.cells [ptr r1,ptr r2,ptr r3].toArray 138 (0,0)),FB n5 0 f0,MB n6 (.slice none 0 0) (.slice none 0 0) (.slice none 0 0) (.slice none 0 0) (.slice none 0 0) (.slice none 0 0) (.slice none 0 0) (.slice none 0 0),vU c1 r1 k q,DrB r1 b p]) Ent.sel ?_
  refine xQ (pk_in (M := [DrB r2 (s2A s).part (s2A s).at_,DrB r3 (s3A s).part (s3A s).at_,pt n2 (.cells (vN vH).toArray 28 (0,0)),FB n3 0 0,pt n4 (.cells [ptr r1,ptr r2,ptr r3].toArray 138 (0,0)),FB n5 0 f0]) (L := [MB n6 (.slice none 0 0) (.slice none 0 0) (.slice none 0 0) (.slice none 0 0) (.slice none 0 0) (.slice none 0 0) (.slice none 0 0) (.slice none 0 0),vU c1 r1 k q,DrB r1 b p])) ?_
  refine uI (α := { z : List (Nod) × Value × List Int × Value × Int × Int × List UInt8 × Int // (z.2.1.oneCell' = true ∧ z.2.2.2.1.oneCell' = true) ∧ OneS M (z.1.map erN,z.2.2.1) z.2.2.2.2.1 z.2.2.2.2.2.1 z.2.2.2.2.2.2.1 z.2.2.2.2.2.2.2 }) (fun z => [(2,ptr n2),(3,ptr n3),(4,ptr n4),(5,ptr n5),(6,ptr n6),(7,ptr c1)]) (fun z => [yC 58 6 z.1.2.1 z.1.1.length (z.1.1.flatMap xR),yB wG z.1.1,yC 3 1 z.1.2.2.2.1 z.1.2.2.1.length (ints z.1.2.2.1),MB n6 z.1.2.1 (.slice none 0 0) (.slice none 0 0) (.slice none 0 0) z.1.2.2.2.1 (.slice none 0 0) (.slice none 0 0) (.slice none 0 0),vU c1 r1 z.1.2.2.2.2.1 z.1.2.2.2.2.2.1,DrB r1 z.1.2.2.2.2.2.2.1 z.1.2.2.2.2.2.2.2,Pk [DrB r2 (s2A s).part (s2A s).at_,DrB r3 (s3A s).part (s3A s).at_,pt n2 (.cells (vN vH).toArray 28 (0,0)),FB n3 0 0,pt n4 (.cells [ptr r1,ptr r2,ptr r3].toArray 138 (0,0)),FB n5 0 f0]]) ?_ ?_
  · repeat (first|(first|refine zK ?_)|(first|((first|refine zA rfl ?_);first|refine zD rfl rfl ?_)))
    refine xQ (own0 (e := 58) (sz := 6)) ?_
    refine xQ (uZ (e := 3)) ?_
    refine xQ (all_nil (R := wG)) ?_
    refine xU (β := { z : Nat × List (Nod) × Value × List Int × Value × Int × Int × List UInt8 × Int // (z.2.2.1.oneCell' = true ∧ z.2.2.2.2.1.oneCell' = true) ∧ LoopS M uS erN n z.1 z.2.1 z.2.2.2.1 z.2.2.2.2.2.1 z.2.2.2.2.2.2.1 z.2.2.2.2.2.2.2.1 z.2.2.2.2.2.2.2.2 }) (fun z => [(2,ptr n2),(3,ptr n3),(4,ptr n4),(5,ptr n5),(6,ptr n6),(7,ptr c1),(8,.int .i64 (n : Int)),(9,.int .i64 (z.1.1 : Int))]) (fun _ => []) (fun z => [yC 58 6 z.1.2.2.1 z.1.2.1.length (z.1.2.1.flatMap xR),yB wG z.1.2.1,yC 3 1 z.1.2.2.2.2.1 z.1.2.2.2.1.length (ints z.1.2.2.2.1),MB n6 z.1.2.2.1 (.slice none 0 0) (.slice none 0 0) (.slice none 0 0) z.1.2.2.2.2.1 (.slice none 0 0) (.slice none 0 0) (.slice none 0 0),vU c1 r1 z.1.2.2.2.2.2.1 z.1.2.2.2.2.2.2.1,DrB r1 z.1.2.2.2.2.2.2.2.1 z.1.2.2.2.2.2.2.2.2,Pk [DrB r2 (s2A s).part (s2A s).at_,DrB r3 (s3A s).part (s3A s).at_,pt n2 (.cells (vN vH).toArray 28 (0,0)),FB n3 0 0,pt n4 (.cells [ptr r1,ptr r2,ptr r3].toArray 138 (0,0)),FB n5 0 f0]]) (fun z => n - z.1.1) ⟨(0,[],.slice none 0 0,[],.slice none 0 0,k,q,b,p),⟨rfl,rfl⟩,.start hg hm⟩ ?_ rfl ?_ ?_
    · (repeat (first|exact zM _|refine zI rfl ?_))
    · simp only [List.flatMap_nil,List.length_nil]
      exact Ent.sel
    rintro ⟨⟨i,xs,v,ps,w,k,q,b,p⟩,⟨hv,hw⟩,hl⟩
    dsimp only at hv hw hl ⊢
    obtain ⟨h1,h2,h3⟩ := hl.1
    by_cases hi : i < n
    · by_cases hk : k = 0
      · subst hk
        obtain ⟨rfl,hb⟩ := hl.good rfl
        have cb := cbad_f c1 r1 0
        have dp := dplace_B r1 b p
        have d := cnode_u c1 r1 b p hb
        repeat (first|(first|refine zB ?_|refine zE ?_|refine zG ?_|refine zK ?_|refine zP ?_|refine zL rfl ?_)|(first|((first|refine zA rfl ?_|refine zZ rfl rfl ?_);first|refine JOq (yH rfl rfl (by omega)) rfl ?_|refine zD rfl rfl ?_|refine yA rfl rfl rfl ?_|refine xD rfl rfl ?_|refine zN rfl (cb) rfl ?_)))
        refine uI (α := { u : Value // u.oneCell' = true }) (fun _ => [(2,ptr n2),(3,ptr n3),(4,ptr n4),(5,ptr n5),(6,ptr n6),(7,ptr c1),(8,.int .i64 (n : Int)),(9,.int .i64 (i : Int))]) (fun u => [yC 58 6 v xs.length (xs.flatMap xR),yB wG xs,yC 3 1 u.1 (ps.length + 1) (ints ps ++ [.int .i64 p]),MB n6 v (.slice none 0 0) (.slice none 0 0) (.slice none 0 0) u.1 (.slice none 0 0) (.slice none 0 0) (.slice none 0 0),vU c1 r1 0 0,DrB r1 b p,Pk [DrB r2 (s2A s).part (s2A s).at_,DrB r3 (s3A s).part (s3A s).at_,pt n2 (.cells (vN vH).toArray 28 (0,0)),FB n3 0 0,pt n4 (.cells [ptr r1,ptr r2,ptr r3].toArray 138 (0,0)),FB n5 0 f0]]) ?_ ?_
        · refine J_calm ?_
          refine tM 10 [MB n6 v (.slice none 0 0) (.slice none 0 0) (.slice none 0 0) w (.slice none 0 0) (.slice none 0 0) (.slice none 0 0),vU c1 r1 0 0] Ent.sel ?_
          (refine yO 0 rfl rfl (by kernel_rfl) (by kernel_rfl) (by kernel_rfl) rfl rfl rfl rfl Ent.sel (by first|exact JQ_field rfl|exact JQ_field rfl) ?_)
          (refine yO 1 rfl rfl (by kernel_rfl) (by kernel_rfl) (by kernel_rfl) rfl rfl rfl rfl Ent.sel (by first|exact xL rfl|exact xL rfl) ?_)
          (refine yO 2 rfl rfl (by kernel_rfl) (by kernel_rfl) (by kernel_rfl) rfl rfl rfl rfl Ent.sel (by first|exact xE rfl|exact xE rfl) ?_)
          (refine yO 3 rfl rfl (by kernel_rfl) (by kernel_rfl) (by kernel_rfl) rfl rfl rfl rfl Ent.sel (by first|exact yQ rfl|exact yQ rfl) ?_)
          (refine yO 4 rfl rfl (by kernel_rfl) (by kernel_rfl) (by kernel_rfl) rfl rfl rfl rfl Ent.sel (by first|exact xP rfl|exact xP rfl) ?_)
          (refine yO 5 rfl rfl (by kernel_rfl) (by kernel_rfl) (by kernel_rfl) rfl rfl rfl rfl Ent.sel (by first|exact xL rfl|exact xL rfl) ?_)
          refine wW rfl ?_
          refine xT rfl rfl (by first|exact xN|exact zX (fun _ _ _ _ h => .inr (yD _ _ _ _ h))) (zN rfl dp rfl ⟨by first|exact (fun _ => Ent.sel)|exact (fun h => absurd h (by decide))|exact (fun _ => Ent.nil),?_⟩)
          refine wW rfl ?_
          refine xT rfl rfl (by first|exact zX (fun _ _ _ _ h => .inr (yD _ _ _ _ h))|exact xN) (yP (n := 1) (vs := [.int .i64 p]) (cs := [.int .i64 p]) rfl rfl rfl (by decide) rfl (fun r9 => ⟨by first|exact (fun _ => Ent.sel)|exact (fun h => absurd h (by decide))|exact (fun _ => Ent.nil),?_⟩))
          refine wW rfl ?_
          refine xT rfl rfl (by first|exact xN|exact zX (fun _ _ _ _ h => .inr (yD _ _ _ _ h))) (wM (sz := 1) (n := ps.length) (m := 1) (news := [.int .i64 p]) rfl rfl wL rfl (by decide) rfl (by simp [Value.oneCell']) (Nat.le_trans (Nat.mul_le_mul_right _ (show ps.length + 1 ≤ 1001 by omega)) (by decide)) (by decide) rfl (fun w' hw' => ⟨by first|exact (fun _ => Ent.sel)|exact (fun h => absurd h (by decide))|exact (fun _ => Ent.nil),?_⟩))
          refine wW rfl ?_
          refine xT rfl rfl (by first|exact zX (fun _ _ _ _ h => .inr (yD _ _ _ _ h))|exact xN) (JO_field rfl rfl ⟨by first|exact (fun _ => Ent.sel)|exact (fun h => absurd h (by decide))|exact (fun _ => Ent.nil),?_⟩)
          refine wW rfl ?_
          refine xT rfl rfl (zX xC) (zW rfl rfl (by first | rfl | assumption) rfl ⟨by first|exact (fun _ => Ent.sel)|exact (fun h => absurd h (by decide))|exact (fun _ => Ent.nil),?_⟩)
          refine JM_fin rfl ?_
          all_goals exact ⟨⟨w',by assumption⟩,by (repeat (first|exact zM _|refine zI rfl ?_)),rfl,Ent.sel⟩
        rintro ⟨w',hw'⟩
        dsimp only [inB,thn] at hw' ⊢
        repeat (first|(first|refine zB ?_)|(first|((first|refine zA rfl ?_);first|refine zD rfl rfl ?_)))
        refine uI (α := { y : Value × (Nod) × Int × Int × List UInt8 × Int // y.1.oneCell' = true ∧ OneS (uS b p) (erN y.2.1) y.2.2.1 y.2.2.2.1 y.2.2.2.2.1 y.2.2.2.2.2 }) (fun _ => [(2,ptr n2),(3,ptr n3),(4,ptr n4),(5,ptr n5),(6,ptr n6),(7,ptr c1),(8,.int .i64 (n : Int)),(9,.int .i64 (i : Int))]) (fun y => [yC 58 6 y.1.1 (xs.length + 1) (xs.flatMap xR ++ xR y.1.2.1),yB wG xs,wG y.1.2.1,yC 3 1 w' (ps.length + 1) (ints ps ++ [.int .i64 p]),MB n6 y.1.1 (.slice none 0 0) (.slice none 0 0) (.slice none 0 0) w' (.slice none 0 0) (.slice none 0 0) (.slice none 0 0),vU c1 r1 y.1.2.2.1 y.1.2.2.2.1,DrB r1 y.1.2.2.2.2.1 y.1.2.2.2.2.2,Pk [DrB r2 (s2A s).part (s2A s).at_,DrB r3 (s3A s).part (s3A s).at_,pt n2 (.cells (vN vH).toArray 28 (0,0)),FB n3 0 0,pt n4 (.cells [ptr r1,ptr r2,ptr r3].toArray 138 (0,0)),FB n5 0 f0]]) ?_ ?_
        · refine J_calm ?_
          refine tM 7 [MB n6 v (.slice none 0 0) (.slice none 0 0) (.slice none 0 0) w' (.slice none 0 0) (.slice none 0 0) (.slice none 0 0)] Ent.sel ?_
          (refine yO 0 rfl rfl (by kernel_rfl) (by kernel_rfl) (by kernel_rfl) rfl rfl rfl rfl Ent.sel (by first|exact xP rfl|exact xP rfl) ?_)
          (refine yO 1 rfl rfl (by kernel_rfl) (by kernel_rfl) (by kernel_rfl) rfl rfl rfl rfl Ent.sel (by first|exact xL rfl|exact xL rfl) ?_)
          (refine yO 2 rfl rfl (by kernel_rfl) (by kernel_rfl) (by kernel_rfl) rfl rfl rfl rfl Ent.sel (by first|exact xE rfl|exact xE rfl) ?_)
          refine wW rfl ?_
          refine xT rfl rfl (by first|exact xN|exact zX (fun _ _ _ _ h => .inr (yD _ _ _ _ h))) (yK rfl d rfl (fun y hy => ⟨by first|exact (fun _ => Ent.sel)|exact (fun h => absurd h (by decide))|exact (fun _ => Ent.nil),?_⟩))
          refine wW rfl ?_
          refine xT rfl rfl (by first|exact zX (fun _ _ _ _ h => .inr (yD _ _ _ _ h))|exact xN) (yP (n := 6) (vs := [.agg (xR _).toArray]) (cs := xR _) rfl rfl (hc := cat_agg1 6 (xR _) rfl) rfl (by decide) rfl (fun r9 => ⟨by first|exact (fun _ => Ent.sel)|exact (fun h => absurd h (by decide))|exact (fun _ => Ent.nil),?_⟩))
          refine wW rfl ?_
          refine xT rfl rfl (by first|exact xN|exact zX (fun _ _ _ _ h => .inr (yD _ _ _ _ h))) (wM (sz := 6) (n := xs.length) (m := 1) (news := xR _) rfl rfl wL rfl (by decide) rfl (nod_one _) (Nat.le_trans (Nat.mul_le_mul_right _ (show xs.length + 1 ≤ 1001 by omega)) (by decide)) (by decide) rfl (fun v' hv' => ⟨by first|exact (fun _ => Ent.sel)|exact (fun h => absurd h (by decide))|exact (fun _ => Ent.nil),?_⟩))
          refine wW rfl ?_
          refine xT rfl rfl (by first|exact zX (fun _ _ _ _ h => .inr (yD _ _ _ _ h))|exact xN) (zF rfl rfl ⟨by first|exact (fun _ => Ent.sel)|exact (fun h => absurd h (by decide))|exact (fun _ => Ent.nil),?_⟩)
          refine wW rfl ?_
          refine xT rfl rfl (zX xC) (zW rfl rfl (by first | rfl | assumption) rfl ⟨by first|exact (fun _ => Ent.sel)|exact (fun h => absurd h (by decide))|exact (fun _ => Ent.nil),?_⟩)
          refine JM_fin rfl ?_
          all_goals exact ⟨⟨(v',y),by assumption,hy⟩,by (repeat (first|exact zM _|refine zI rfl ?_)),rfl,Ent.sel⟩
        rintro ⟨⟨v',x,k2,q2,b2,p2⟩,hv',hx⟩
        dsimp only [inB,thn] at hv' hx ⊢
        repeat (first|(first|refine zB ?_|refine zE ?_)|(first|((first|refine zA rfl ?_);first|refine yZ (b := 1) rfl rfl (by omega) rfl ?_|refine zD rfl rfl ?_|refine zC rfl rfl ?_)))
        refine ⟨⟨(i + 1,xs ++ [x],v',ps ++ [p],w',k2,q2,b2,p2),⟨hv',hw'⟩,hl.step hi hx⟩,by simp only;omega,by (repeat (first|exact zM _|refine zI rfl ?_)),rfl,?_⟩
        simp only [List.flatMap_append,List.flatMap_singleton,List.length_append,List.length_singleton,ints_snoc]
        exact (Ent.sel (K := [yB wG xs,wG x,yC 58 6 v' (xs.length + 1) (xs.flatMap xR ++ xR x),yC 3 1 w' (ps.length + 1) (ints ps ++ [.int .i64 p]),MB n6 v' (.slice none 0 0) (.slice none 0 0) (.slice none 0 0) w' (.slice none 0 0) (.slice none 0 0) (.slice none 0 0),vU c1 r1 k2 q2,DrB r1 b2 p2,Pk [DrB r2 (s2A s).part (s2A s).at_,DrB r3 (s3A s).part (s3A s).at_,pt n2 (.cells (vN vH).toArray 28 (0,0)),FB n3 0 0,pt n4 (.cells [ptr r1,ptr r2,ptr r3].toArray 138 (0,0)),FB n5 0 f0]])).trans ((all_snoc up_nodR).trans Ent.sel)
      · have cb := cbad_t c1 r1 k q hk
        repeat (first|(first|refine zB ?_|refine zE ?_|refine zG ?_|refine zJ rfl ?_|refine xA ?_)|(first|((first|refine zA rfl ?_|refine zZ rfl rfl ?_);first|refine JOq (yH rfl rfl (by omega)) rfl ?_|refine zD rfl rfl ?_|refine yA rfl rfl rfl ?_|refine xD rfl rfl ?_|refine zN rfl (cb) rfl ?_)))
        exact ⟨⟨(xs,v,ps,w,k,q,b,p),⟨hv,hw⟩,hl.done (fun h => absurd h hk)⟩,by (repeat (first|exact zM _|refine zI rfl ?_)),rfl,Ent.sel⟩
    · repeat (first|(first|refine zB ?_|refine zE ?_|refine zG ?_|refine zJ rfl ?_|refine xA ?_)|(first|((first|refine zA rfl ?_);first|refine JOq (yS rfl rfl (by omega)) rfl ?_|refine zD rfl rfl ?_|refine yJ rfl rfl rfl ?_)|refine yU rfl rfl rfl ?_))
      exact ⟨⟨(xs,v,ps,w,k,q,b,p),⟨hv,hw⟩,hl.done (fun _ => by omega)⟩,by (repeat (first|exact zM _|refine zI rfl ?_)),rfl,Ent.sel⟩
  clear hm hg hn n
  rintro ⟨⟨ns,v0,as1,w0,k,q,b,p⟩,⟨-,-⟩,ho⟩
  dsimp only [thn] at ho ⊢
  refine wQ (Pk [DrB r2 (s2A s).part (s2A s).at_,DrB r3 (s3A s).part (s3A s).at_,pt n2 (.cells (vN vH).toArray 28 (0,0)),FB n3 0 0,pt n4 (.cells [ptr r1,ptr r2,ptr r3].toArray 138 (0,0)),FB n5 0 f0]) ?_
  refine xQ (pk_out (M := [DrB r2 (s2A s).part (s2A s).at_,DrB r3 (s3A s).part (s3A s).at_,pt n2 (.cells (vN vH).toArray 28 (0,0)),FB n3 0 0,pt n4 (.cells [ptr r1,ptr r2,ptr r3].toArray 138 (0,0)),FB n5 0 f0])) ?_
  simp only [List.cons_append,List.nil_append]
  have ce := cend_u c1 r1 k q b p ho.good
  repeat (first|(first|refine zB ?_|refine zG ?_)|(first|((first|refine zA rfl ?_);first|refine zD rfl rfl ?_)))
  refine zA rfl (yK rfl ce rfl (fun z hE => ?_))
  obtain ⟨fc,fa⟩ := z
  dsimp only at hE ⊢
  replace hT := hT.trans (sec_end ho hE (fun z _ _ _ => tk2 s z))
  rcases Decidable.em (¬ fc = 0) with hf | hf
  · rw [rdS_no _ hf] at hT
    rw [hT]
    repeat (first|(first|refine zB ?_|refine zE ?_|refine zG ?_|refine zL rfl ?_)|(first|((first|refine zA rfl ?_);first|refine JOq (vS rfl rfl (by omega)) rfl ?_|refine zO rfl rfl (by rfl) (by rfl) (by simp [Value.oneCell']) rfl ?_|refine zF rfl rfl ?_|refine zH rfl rfl ?_)))
    refine tG none [pt n5 (.cells [.int .i64 fc,.int .i64 fa].toArray 87 (0,0))] Ent.sel ?_
    repeat' (first|refine JW_fin rfl ?_|refine JW_only rfl ?_|refine JW_two rfl ?_ ?_|refine vV rfl rfl (yG (cs := vN vH) rfl rfl rfl ⟨by first|exact (fun _ => Ent.sel),?_⟩)|refine vV rfl rfl (zU rfl (by rfl) rfl ⟨by first|exact (fun _ => Ent.sel),?_⟩)|refine vV rfl rfl (zO rfl rfl (by rfl) (by rfl) (by simp [Value.oneCell']) rfl ⟨by first|exact (fun _ => Ent.sel),?_⟩))
    all_goals (refine zV ?_;exact ⟨rfl,_,uO rfl (yV (n := 8) rfl rfl) (yV (n := 2) rfl rfl),[],.nil,hf,rfl,rfl⟩)
  obtain rfl : fc = 0 := Decidable.not_not.1 hf
  clear hf
  obtain ⟨rfl,-⟩ := hE.good rfl
  rw [rdS_0] at hT
  clear hE ce
  clear ho hM M
  unfold tk2 at hT
  repeat (first|(first|refine zB ?_|refine zE ?_|refine zG ?_|refine zP ?_|refine zJ rfl ?_)|(first|((first|refine zA rfl ?_);first|refine JOq (vW rfl rfl (by omega)) rfl ?_|refine zO rfl rfl (by rfl) (by rfl) (by simp [Value.oneCell']) rfl ?_|refine JOq (yR 0 (j := 0) rfl rfl (by decide) rfl) rfl ?_|refine JOq (yR 1 (j := 1) rfl rfl (by decide) rfl) rfl ?_|refine JOq (yR 2 (j := 2) rfl rfl (by decide) rfl) rfl ?_|refine yG (cs := [ptr r2,.int .i64 0,.int .i64 0]) rfl rfl rfl ?_|refine zD rfl rfl ?_|refine zC rfl rfl ?_|refine zF rfl rfl ?_|refine zH rfl rfl ?_|refine yN rfl rfl (fun r => ?_))))
  revert r
  intro c2
  have c1 := cnum_u c2 r2 0 0 16 (s2A s).part (s2A s).at_ (by decide) (.ok (by omega))
  repeat (first|(first|refine zB ?_)|(first|((first|refine zA rfl ?_);first|refine zD rfl rfl ?_)))
  refine zA rfl (yK rfl c1 rfl (fun z hz => ?_))
  obtain ⟨n,k,q,b,p⟩ := z
  obtain ⟨h1,hn⟩ := hz
  dsimp only [id] at h1 hn ⊢
  have hm := any_many (rd := temR) h1
  have hg := h1.good
  clear c1 h1
  repeat (first|(first|refine zB ?_|refine zE ?_|refine zG ?_)|(first|((first|refine zA rfl ?_);first|refine zC rfl rfl ?_)))
  rw [rdS_0] at hm
  generalize hM : vR 0 16 temR (s2A s).part (s2A s).at_ = M at hm hT
  refine xQ (L' := [yC 58 6 v0 ns.length (ns.flatMap xR),yB wG ns,yC 3 1 w0 as1.length (ints as1),DrB r3 (s3A s).part (s3A s).at_,pt n2 (.cells (vN vH).toArray 28 (0,0)),FB n3 0 0,pt n4 (.cells [ptr r1,ptr r2,ptr r3].toArray 138 (0,0)),FB n5 0 0,MB n6 v0 (.slice none 0 0) (.slice none 0 0) (.slice none 0 0) w0 (.slice none 0 0) (.slice none 0 0) (.slice none 0 0),vU c2 r2 k q,DrB r2 b p]) Ent.sel ?_
  refine xQ (pk_in (M := [yC 58 6 v0 ns.length (ns.flatMap xR),yB wG ns,yC 3 1 w0 as1.length (ints as1),DrB r3 (s3A s).part (s3A s).at_,pt n2 (.cells (vN vH).toArray 28 (0,0)),FB n3 0 0,pt n4 (.cells [ptr r1,ptr r2,ptr r3].toArray 138 (0,0)),FB n5 0 0]) (L := [MB n6 v0 (.slice none 0 0) (.slice none 0 0) (.slice none 0 0) w0 (.slice none 0 0) (.slice none 0 0) (.slice none 0 0),vU c2 r2 k q,DrB r2 b p])) ?_
  refine uI (α := { z : List (Tem) × Value × List Int × Value × Int × Int × List UInt8 × Int // (z.2.1.oneCell' = true ∧ z.2.2.2.1.oneCell' = true) ∧ OneS M (z.1.map erT,z.2.2.1) z.2.2.2.2.1 z.2.2.2.2.2.1 z.2.2.2.2.2.2.1 z.2.2.2.2.2.2.2 }) (fun z => [(2,ptr n2),(3,ptr n3),(4,ptr n4),(5,ptr n5),(6,ptr n6),(7,ptr c2)]) (fun z => [yC 50 3 z.1.2.1 z.1.1.length (z.1.1.flatMap wA),yB wS z.1.1,yC 3 1 z.1.2.2.2.1 z.1.2.2.1.length (ints z.1.2.2.1),MB n6 v0 z.1.2.1 (.slice none 0 0) (.slice none 0 0) w0 z.1.2.2.2.1 (.slice none 0 0) (.slice none 0 0),vU c2 r2 z.1.2.2.2.2.1 z.1.2.2.2.2.2.1,DrB r2 z.1.2.2.2.2.2.2.1 z.1.2.2.2.2.2.2.2,Pk [yC 58 6 v0 ns.length (ns.flatMap xR),yB wG ns,yC 3 1 w0 as1.length (ints as1),DrB r3 (s3A s).part (s3A s).at_,pt n2 (.cells (vN vH).toArray 28 (0,0)),FB n3 0 0,pt n4 (.cells [ptr r1,ptr r2,ptr r3].toArray 138 (0,0)),FB n5 0 0]]) ?_ ?_
  · repeat (first|(first|refine zK ?_)|(first|((first|refine zA rfl ?_);first|refine zD rfl rfl ?_)))
    refine xQ (own0 (e := 50) (sz := 3)) ?_
    refine xQ (uZ (e := 3)) ?_
    refine xQ (all_nil (R := wS)) ?_
    refine xU (β := { z : Nat × List (Tem) × Value × List Int × Value × Int × Int × List UInt8 × Int // (z.2.2.1.oneCell' = true ∧ z.2.2.2.2.1.oneCell' = true) ∧ LoopS M temR erT n z.1 z.2.1 z.2.2.2.1 z.2.2.2.2.2.1 z.2.2.2.2.2.2.1 z.2.2.2.2.2.2.2.1 z.2.2.2.2.2.2.2.2 }) (fun z => [(2,ptr n2),(3,ptr n3),(4,ptr n4),(5,ptr n5),(6,ptr n6),(7,ptr c2),(8,.int .i64 (n : Int)),(10,.int .i64 (z.1.1 : Int))]) (fun _ => []) (fun z => [yC 50 3 z.1.2.2.1 z.1.2.1.length (z.1.2.1.flatMap wA),yB wS z.1.2.1,yC 3 1 z.1.2.2.2.2.1 z.1.2.2.2.1.length (ints z.1.2.2.2.1),MB n6 v0 z.1.2.2.1 (.slice none 0 0) (.slice none 0 0) w0 z.1.2.2.2.2.1 (.slice none 0 0) (.slice none 0 0),vU c2 r2 z.1.2.2.2.2.2.1 z.1.2.2.2.2.2.2.1,DrB r2 z.1.2.2.2.2.2.2.2.1 z.1.2.2.2.2.2.2.2.2,Pk [yC 58 6 v0 ns.length (ns.flatMap xR),yB wG ns,yC 3 1 w0 as1.length (ints as1),DrB r3 (s3A s).part (s3A s).at_,pt n2 (.cells (vN vH).toArray 28 (0,0)),FB n3 0 0,pt n4 (.cells [ptr r1,ptr r2,ptr r3].toArray 138 (0,0)),FB n5 0 0]]) (fun z => n - z.1.1) ⟨(0,[],.slice none 0 0,[],.slice none 0 0,k,q,b,p),⟨rfl,rfl⟩,.start hg hm⟩ ?_ rfl ?_ ?_
    · (repeat (first|exact zM _|refine zI rfl ?_))
    · simp only [List.flatMap_nil,List.length_nil]
      exact Ent.sel
    rintro ⟨⟨i,xs,v,ps,w,k,q,b,p⟩,⟨hv,hw⟩,hl⟩
    dsimp only at hv hw hl ⊢
    obtain ⟨h1,h2,h3⟩ := hl.1
    by_cases hi : i < n
    · by_cases hk : k = 0
      · subst hk
        obtain ⟨rfl,hb⟩ := hl.good rfl
        have cb := cbad_f c2 r2 0
        have dp := dplace_B r2 b p
        have d := ctem_u c2 r2 b p hb
        repeat (first|(first|refine zB ?_|refine zE ?_|refine zG ?_|refine zK ?_|refine zP ?_|refine zL rfl ?_)|(first|((first|refine zA rfl ?_|refine zZ rfl rfl ?_);first|refine JOq (yH rfl rfl (by omega)) rfl ?_|refine zD rfl rfl ?_|refine yA rfl rfl rfl ?_|refine xD rfl rfl ?_|refine zN rfl (cb) rfl ?_)))
        refine uI (α := { u : Value // u.oneCell' = true }) (fun _ => [(2,ptr n2),(3,ptr n3),(4,ptr n4),(5,ptr n5),(6,ptr n6),(7,ptr c2),(8,.int .i64 (n : Int)),(10,.int .i64 (i : Int))]) (fun u => [yC 50 3 v xs.length (xs.flatMap wA),yB wS xs,yC 3 1 u.1 (ps.length + 1) (ints ps ++ [.int .i64 p]),MB n6 v0 v (.slice none 0 0) (.slice none 0 0) w0 u.1 (.slice none 0 0) (.slice none 0 0),vU c2 r2 0 0,DrB r2 b p,Pk [yC 58 6 v0 ns.length (ns.flatMap xR),yB wG ns,yC 3 1 w0 as1.length (ints as1),DrB r3 (s3A s).part (s3A s).at_,pt n2 (.cells (vN vH).toArray 28 (0,0)),FB n3 0 0,pt n4 (.cells [ptr r1,ptr r2,ptr r3].toArray 138 (0,0)),FB n5 0 0]]) ?_ ?_
        · refine J_calm ?_
          refine tM 10 [MB n6 v0 v (.slice none 0 0) (.slice none 0 0) w0 w (.slice none 0 0) (.slice none 0 0),vU c2 r2 0 0] Ent.sel ?_
          (refine yO 0 rfl rfl (by kernel_rfl) (by kernel_rfl) (by kernel_rfl) rfl rfl rfl rfl Ent.sel (by first|exact JQ_field rfl|exact JQ_field rfl) ?_)
          (refine yO 1 rfl rfl (by kernel_rfl) (by kernel_rfl) (by kernel_rfl) rfl rfl rfl rfl Ent.sel (by first|exact xL rfl|exact xL rfl) ?_)
          (refine yO 2 rfl rfl (by kernel_rfl) (by kernel_rfl) (by kernel_rfl) rfl rfl rfl rfl Ent.sel (by first|exact xE rfl|exact xE rfl) ?_)
          (refine yO 3 rfl rfl (by kernel_rfl) (by kernel_rfl) (by kernel_rfl) rfl rfl rfl rfl Ent.sel (by first|exact yQ rfl|exact yQ rfl) ?_)
          (refine yO 4 rfl rfl (by kernel_rfl) (by kernel_rfl) (by kernel_rfl) rfl rfl rfl rfl Ent.sel (by first|exact xP rfl|exact xP rfl) ?_)
          (refine yO 5 rfl rfl (by kernel_rfl) (by kernel_rfl) (by kernel_rfl) rfl rfl rfl rfl Ent.sel (by first|exact xL rfl|exact xL rfl) ?_)
          refine wW rfl ?_
          refine xT rfl rfl (by first|exact xN|exact zX (fun _ _ _ _ h => .inr (yD _ _ _ _ h))) (zN rfl dp rfl ⟨by first|exact (fun _ => Ent.sel)|exact (fun h => absurd h (by decide))|exact (fun _ => Ent.nil),?_⟩)
          refine wW rfl ?_
          refine xT rfl rfl (by first|exact zX (fun _ _ _ _ h => .inr (yD _ _ _ _ h))|exact xN) (yP (n := 1) (vs := [.int .i64 p]) (cs := [.int .i64 p]) rfl rfl rfl (by decide) rfl (fun r9 => ⟨by first|exact (fun _ => Ent.sel)|exact (fun h => absurd h (by decide))|exact (fun _ => Ent.nil),?_⟩))
          refine wW rfl ?_
          refine xT rfl rfl (by first|exact xN|exact zX (fun _ _ _ _ h => .inr (yD _ _ _ _ h))) (wM (sz := 1) (n := ps.length) (m := 1) (news := [.int .i64 p]) rfl rfl wL rfl (by decide) rfl (by simp [Value.oneCell']) (Nat.le_trans (Nat.mul_le_mul_right _ (show ps.length + 1 ≤ 1001 by omega)) (by decide)) (by decide) rfl (fun w' hw' => ⟨by first|exact (fun _ => Ent.sel)|exact (fun h => absurd h (by decide))|exact (fun _ => Ent.nil),?_⟩))
          refine wW rfl ?_
          refine xT rfl rfl (by first|exact zX (fun _ _ _ _ h => .inr (yD _ _ _ _ h))|exact xN) (JO_field rfl rfl ⟨by first|exact (fun _ => Ent.sel)|exact (fun h => absurd h (by decide))|exact (fun _ => Ent.nil),?_⟩)
          refine wW rfl ?_
          refine xT rfl rfl (zX xC) (zW rfl rfl (by first | rfl | assumption) rfl ⟨by first|exact (fun _ => Ent.sel)|exact (fun h => absurd h (by decide))|exact (fun _ => Ent.nil),?_⟩)
          refine JM_fin rfl ?_
          all_goals exact ⟨⟨w',by assumption⟩,by (repeat (first|exact zM _|refine zI rfl ?_)),rfl,Ent.sel⟩
        rintro ⟨w',hw'⟩
        dsimp only [inB,thn] at hw' ⊢
        repeat (first|(first|refine zB ?_)|(first|((first|refine zA rfl ?_);first|refine zD rfl rfl ?_)))
        refine uI (α := { y : Value × (Tem) × Int × Int × List UInt8 × Int // y.1.oneCell' = true ∧ OneS (temR b p) (erT y.2.1) y.2.2.1 y.2.2.2.1 y.2.2.2.2.1 y.2.2.2.2.2 }) (fun _ => [(2,ptr n2),(3,ptr n3),(4,ptr n4),(5,ptr n5),(6,ptr n6),(7,ptr c2),(8,.int .i64 (n : Int)),(10,.int .i64 (i : Int))]) (fun y => [yC 50 3 y.1.1 (xs.length + 1) (xs.flatMap wA ++ wA y.1.2.1),yB wS xs,wS y.1.2.1,yC 3 1 w' (ps.length + 1) (ints ps ++ [.int .i64 p]),MB n6 v0 y.1.1 (.slice none 0 0) (.slice none 0 0) w0 w' (.slice none 0 0) (.slice none 0 0),vU c2 r2 y.1.2.2.1 y.1.2.2.2.1,DrB r2 y.1.2.2.2.2.1 y.1.2.2.2.2.2,Pk [yC 58 6 v0 ns.length (ns.flatMap xR),yB wG ns,yC 3 1 w0 as1.length (ints as1),DrB r3 (s3A s).part (s3A s).at_,pt n2 (.cells (vN vH).toArray 28 (0,0)),FB n3 0 0,pt n4 (.cells [ptr r1,ptr r2,ptr r3].toArray 138 (0,0)),FB n5 0 0]]) ?_ ?_
        · refine J_calm ?_
          refine tM 7 [MB n6 v0 v (.slice none 0 0) (.slice none 0 0) w0 w' (.slice none 0 0) (.slice none 0 0)] Ent.sel ?_
          (refine yO 0 rfl rfl (by kernel_rfl) (by kernel_rfl) (by kernel_rfl) rfl rfl rfl rfl Ent.sel (by first|exact JQ_field rfl|exact JQ_field rfl) ?_)
          (refine yO 1 rfl rfl (by kernel_rfl) (by kernel_rfl) (by kernel_rfl) rfl rfl rfl rfl Ent.sel (by first|exact xL rfl|exact xL rfl) ?_)
          (refine yO 2 rfl rfl (by kernel_rfl) (by kernel_rfl) (by kernel_rfl) rfl rfl rfl rfl Ent.sel (by first|exact xE rfl|exact xE rfl) ?_)
          refine wW rfl ?_
          refine xT rfl rfl (by first|exact xN|exact zX (fun _ _ _ _ h => .inr (yD _ _ _ _ h))) (yK rfl d rfl (fun y hy => ⟨by first|exact (fun _ => Ent.sel)|exact (fun h => absurd h (by decide))|exact (fun _ => Ent.nil),?_⟩))
          refine wW rfl ?_
          refine xT rfl rfl (by first|exact zX (fun _ _ _ _ h => .inr (yD _ _ _ _ h))|exact xN) (yP (n := 3) (vs := [.agg (wA _).toArray]) (cs := wA _) rfl rfl (hc := cat_agg1 3 (wA _) rfl) rfl (by decide) rfl (fun r9 => ⟨by first|exact (fun _ => Ent.sel)|exact (fun h => absurd h (by decide))|exact (fun _ => Ent.nil),?_⟩))
          refine wW rfl ?_
          refine xT rfl rfl (by first|exact xN|exact zX (fun _ _ _ _ h => .inr (yD _ _ _ _ h))) (wM (sz := 3) (n := xs.length) (m := 1) (news := wA _) rfl rfl wL rfl (by decide) rfl (tem_one _) (Nat.le_trans (Nat.mul_le_mul_right _ (show xs.length + 1 ≤ 1001 by omega)) (by decide)) (by decide) rfl (fun v' hv' => ⟨by first|exact (fun _ => Ent.sel)|exact (fun h => absurd h (by decide))|exact (fun _ => Ent.nil),?_⟩))
          refine wW rfl ?_
          refine xT rfl rfl (by first|exact zX (fun _ _ _ _ h => .inr (yD _ _ _ _ h))|exact xN) (JO_field rfl rfl ⟨by first|exact (fun _ => Ent.sel)|exact (fun h => absurd h (by decide))|exact (fun _ => Ent.nil),?_⟩)
          refine wW rfl ?_
          refine xT rfl rfl (zX xC) (zW rfl rfl (by first | rfl | assumption) rfl ⟨by first|exact (fun _ => Ent.sel)|exact (fun h => absurd h (by decide))|exact (fun _ => Ent.nil),?_⟩)
          refine JM_fin rfl ?_
          all_goals exact ⟨⟨(v',y),by assumption,hy⟩,by (repeat (first|exact zM _|refine zI rfl ?_)),rfl,Ent.sel⟩
        rintro ⟨⟨v',x,k2,q2,b2,p2⟩,hv',hx⟩
        dsimp only [inB,thn] at hv' hx ⊢
        repeat (first|(first|refine zB ?_|refine zE ?_)|(first|((first|refine zA rfl ?_);first|refine yZ (b := 1) rfl rfl (by omega) rfl ?_|refine zD rfl rfl ?_|refine zC rfl rfl ?_)))
        refine ⟨⟨(i + 1,xs ++ [x],v',ps ++ [p],w',k2,q2,b2,p2),⟨hv',hw'⟩,hl.step hi hx⟩,by simp only;omega,by (repeat (first|exact zM _|refine zI rfl ?_)),rfl,?_⟩
        simp only [List.flatMap_append,List.flatMap_singleton,List.length_append,List.length_singleton,ints_snoc]
        exact (Ent.sel (K := [yB wS xs,wS x,yC 50 3 v' (xs.length + 1) (xs.flatMap wA ++ wA x),yC 3 1 w' (ps.length + 1) (ints ps ++ [.int .i64 p]),MB n6 v0 v' (.slice none 0 0) (.slice none 0 0) w0 w' (.slice none 0 0) (.slice none 0 0),vU c2 r2 k2 q2,DrB r2 b2 p2,Pk [yC 58 6 v0 ns.length (ns.flatMap xR),yB wG ns,yC 3 1 w0 as1.length (ints as1),DrB r3 (s3A s).part (s3A s).at_,pt n2 (.cells (vN vH).toArray 28 (0,0)),FB n3 0 0,pt n4 (.cells [ptr r1,ptr r2,ptr r3].toArray 138 (0,0)),FB n5 0 0]])).trans ((all_snoc up_temR).trans Ent.sel)
      · have cb := cbad_t c2 r2 k q hk
        repeat (first|(first|refine zB ?_|refine zE ?_|refine zG ?_|refine zJ rfl ?_|refine xA ?_)|(first|((first|refine zA rfl ?_|refine zZ rfl rfl ?_);first|refine JOq (yH rfl rfl (by omega)) rfl ?_|refine zD rfl rfl ?_|refine yA rfl rfl rfl ?_|refine xD rfl rfl ?_|refine zN rfl (cb) rfl ?_)))
        exact ⟨⟨(xs,v,ps,w,k,q,b,p),⟨hv,hw⟩,hl.done (fun h => absurd h hk)⟩,by (repeat (first|exact zM _|refine zI rfl ?_)),rfl,Ent.sel⟩
    · repeat (first|(first|refine zB ?_|refine zE ?_|refine zG ?_|refine zJ rfl ?_|refine xA ?_)|(first|((first|refine zA rfl ?_);first|refine JOq (yS rfl rfl (by omega)) rfl ?_|refine zD rfl rfl ?_|refine yJ rfl rfl rfl ?_)|refine yU rfl rfl rfl ?_))
      exact ⟨⟨(xs,v,ps,w,k,q,b,p),⟨hv,hw⟩,hl.done (fun _ => by omega)⟩,by (repeat (first|exact zM _|refine zI rfl ?_)),rfl,Ent.sel⟩
  clear hm hg hn n
  rintro ⟨⟨ts,v1,as2,w1,k,q,b,p⟩,⟨-,-⟩,ho⟩
  dsimp only [thn] at ho ⊢
  refine wQ (Pk [yC 58 6 v0 ns.length (ns.flatMap xR),yB wG ns,yC 3 1 w0 as1.length (ints as1),DrB r3 (s3A s).part (s3A s).at_,pt n2 (.cells (vN vH).toArray 28 (0,0)),FB n3 0 0,pt n4 (.cells [ptr r1,ptr r2,ptr r3].toArray 138 (0,0)),FB n5 0 0]) ?_
  refine xQ (pk_out (M := [yC 58 6 v0 ns.length (ns.flatMap xR),yB wG ns,yC 3 1 w0 as1.length (ints as1),DrB r3 (s3A s).part (s3A s).at_,pt n2 (.cells (vN vH).toArray 28 (0,0)),FB n3 0 0,pt n4 (.cells [ptr r1,ptr r2,ptr r3].toArray 138 (0,0)),FB n5 0 0])) ?_
  simp only [List.cons_append,List.nil_append]
  have ce := cend_u c2 r2 k q b p ho.good
  repeat (first|(first|refine zB ?_|refine zG ?_)|(first|((first|refine zA rfl ?_);first|refine zD rfl rfl ?_)))
  refine zA rfl (yK rfl ce rfl (fun z hE => ?_))
  obtain ⟨fc,fa⟩ := z
  dsimp only at hE ⊢
  replace hT := hT.trans (sec_end ho hE (fun z _ _ _ => tk3 s (ns.map erN,as1) z))
  rcases Decidable.em (¬ fc = 0) with hf | hf
  · rw [rdS_no _ hf] at hT
    rw [hT]
    repeat (first|(first|refine zB ?_|refine zE ?_|refine zG ?_|refine zL rfl ?_)|(first|((first|refine zA rfl ?_);first|refine JOq (vS rfl rfl (by omega)) rfl ?_|refine zO rfl rfl (by rfl) (by rfl) (by simp [Value.oneCell']) rfl ?_|refine zF rfl rfl ?_|refine zH rfl rfl ?_)))
    refine tG none [pt n5 (.cells [.int .i64 fc,.int .i64 fa].toArray 87 (0,0))] Ent.sel ?_
    repeat' (first|refine JW_fin rfl ?_|refine JW_only rfl ?_|refine JW_two rfl ?_ ?_|refine vV rfl rfl (yG (cs := vN vH) rfl rfl rfl ⟨by first|exact (fun _ => Ent.sel),?_⟩)|refine vV rfl rfl (zU rfl (by rfl) rfl ⟨by first|exact (fun _ => Ent.sel),?_⟩)|refine vV rfl rfl (zO rfl rfl (by rfl) (by rfl) (by simp [Value.oneCell']) rfl ⟨by first|exact (fun _ => Ent.sel),?_⟩))
    all_goals (refine zV ?_;exact ⟨rfl,_,uO rfl (yV (n := 8) rfl rfl) (yV (n := 2) rfl rfl),[],.nil,hf,rfl,rfl⟩)
  obtain rfl : fc = 0 := Decidable.not_not.1 hf
  clear hf
  obtain ⟨rfl,-⟩ := hE.good rfl
  rw [rdS_0] at hT
  clear hE ce
  clear ho hM M
  unfold tk3 at hT
  repeat (first|(first|refine zB ?_|refine zE ?_|refine zG ?_|refine zP ?_|refine zJ rfl ?_)|(first|((first|refine zA rfl ?_);first|refine JOq (vW rfl rfl (by omega)) rfl ?_|refine zO rfl rfl (by rfl) (by rfl) (by simp [Value.oneCell']) rfl ?_|refine JOq (yR 0 (j := 0) rfl rfl (by decide) rfl) rfl ?_|refine JOq (yR 1 (j := 1) rfl rfl (by decide) rfl) rfl ?_|refine JOq (yR 2 (j := 2) rfl rfl (by decide) rfl) rfl ?_|refine yG (cs := [ptr r3,.int .i64 0,.int .i64 0]) rfl rfl rfl ?_|refine zD rfl rfl ?_|refine zC rfl rfl ?_|refine zF rfl rfl ?_|refine zH rfl rfl ?_|refine yN rfl rfl (fun r => ?_))))
  revert r
  intro c3
  have c1 := cnum_u c3 r3 0 0 16 (s3A s).part (s3A s).at_ (by decide) (.ok (by omega))
  repeat (first|(first|refine zB ?_)|(first|((first|refine zA rfl ?_);first|refine zD rfl rfl ?_)))
  refine zA rfl (yK rfl c1 rfl (fun z hz => ?_))
  obtain ⟨n,k,q,b,p⟩ := z
  obtain ⟨h1,hn⟩ := hz
  dsimp only [id] at h1 hn ⊢
  have hm := any_many (rd := wO) h1
  have hg := h1.good
  clear c1 h1
  repeat (first|(first|refine zB ?_|refine zE ?_|refine zG ?_)|(first|((first|refine zA rfl ?_);first|refine zC rfl rfl ?_)))
  rw [rdS_0] at hm
  generalize hM : vR 0 16 wO (s3A s).part (s3A s).at_ = M at hm hT
  refine xQ (L' := [yC 50 3 v1 ts.length (ts.flatMap wA),yB wS ts,yC 3 1 w1 as2.length (ints as2),yC 58 6 v0 ns.length (ns.flatMap xR),yB wG ns,yC 3 1 w0 as1.length (ints as1),pt n2 (.cells (vN vH).toArray 28 (0,0)),FB n3 0 0,pt n4 (.cells [ptr r1,ptr r2,ptr r3].toArray 138 (0,0)),FB n5 0 0,MB n6 v0 v1 (.slice none 0 0) (.slice none 0 0) w0 w1 (.slice none 0 0) (.slice none 0 0),vU c3 r3 k q,DrB r3 b p]) Ent.sel ?_
  refine xQ (pk_in (M := [yC 50 3 v1 ts.length (ts.flatMap wA),yB wS ts,yC 3 1 w1 as2.length (ints as2),yC 58 6 v0 ns.length (ns.flatMap xR),yB wG ns,yC 3 1 w0 as1.length (ints as1),pt n2 (.cells (vN vH).toArray 28 (0,0)),FB n3 0 0,pt n4 (.cells [ptr r1,ptr r2,ptr r3].toArray 138 (0,0)),FB n5 0 0]) (L := [MB n6 v0 v1 (.slice none 0 0) (.slice none 0 0) w0 w1 (.slice none 0 0) (.slice none 0 0),vU c3 r3 k q,DrB r3 b p])) ?_
  refine uI (α := { z : List (Int × Int) × Value × List Int × Value × Int × Int × List UInt8 × Int // (z.2.1.oneCell' = true ∧ z.2.2.2.1.oneCell' = true) ∧ OneS M (z.1.map id,z.2.2.1) z.2.2.2.2.1 z.2.2.2.2.2.1 z.2.2.2.2.2.2.1 z.2.2.2.2.2.2.2 }) (fun z => [(2,ptr n2),(3,ptr n3),(4,ptr n4),(5,ptr n5),(6,ptr n6),(7,ptr c3)]) (fun z => [yC 60 2 z.1.2.1 z.1.1.length (z.1.1.flatMap yI),yC 3 1 z.1.2.2.2.1 z.1.2.2.1.length (ints z.1.2.2.1),MB n6 v0 v1 z.1.2.1 (.slice none 0 0) w0 w1 z.1.2.2.2.1 (.slice none 0 0),vU c3 r3 z.1.2.2.2.2.1 z.1.2.2.2.2.2.1,DrB r3 z.1.2.2.2.2.2.2.1 z.1.2.2.2.2.2.2.2,Pk [yC 50 3 v1 ts.length (ts.flatMap wA),yB wS ts,yC 3 1 w1 as2.length (ints as2),yC 58 6 v0 ns.length (ns.flatMap xR),yB wG ns,yC 3 1 w0 as1.length (ints as1),pt n2 (.cells (vN vH).toArray 28 (0,0)),FB n3 0 0,pt n4 (.cells [ptr r1,ptr r2,ptr r3].toArray 138 (0,0)),FB n5 0 0]]) ?_ ?_
  · repeat (first|(first|refine zK ?_)|(first|((first|refine zA rfl ?_);first|refine zD rfl rfl ?_)))
    refine xQ (own0 (e := 60) (sz := 2)) ?_
    refine xQ (uZ (e := 3)) ?_
    refine xU (β := { z : Nat × List (Int × Int) × Value × List Int × Value × Int × Int × List UInt8 × Int // (z.2.2.1.oneCell' = true ∧ z.2.2.2.2.1.oneCell' = true) ∧ LoopS M wO id n z.1 z.2.1 z.2.2.2.1 z.2.2.2.2.2.1 z.2.2.2.2.2.2.1 z.2.2.2.2.2.2.2.1 z.2.2.2.2.2.2.2.2 }) (fun z => [(2,ptr n2),(3,ptr n3),(4,ptr n4),(5,ptr n5),(6,ptr n6),(7,ptr c3),(8,.int .i64 (n : Int)),(11,.int .i64 (z.1.1 : Int))]) (fun _ => []) (fun z => [yC 60 2 z.1.2.2.1 z.1.2.1.length (z.1.2.1.flatMap yI),yC 3 1 z.1.2.2.2.2.1 z.1.2.2.2.1.length (ints z.1.2.2.2.1),MB n6 v0 v1 z.1.2.2.1 (.slice none 0 0) w0 w1 z.1.2.2.2.2.1 (.slice none 0 0),vU c3 r3 z.1.2.2.2.2.2.1 z.1.2.2.2.2.2.2.1,DrB r3 z.1.2.2.2.2.2.2.2.1 z.1.2.2.2.2.2.2.2.2,Pk [yC 50 3 v1 ts.length (ts.flatMap wA),yB wS ts,yC 3 1 w1 as2.length (ints as2),yC 58 6 v0 ns.length (ns.flatMap xR),yB wG ns,yC 3 1 w0 as1.length (ints as1),pt n2 (.cells (vN vH).toArray 28 (0,0)),FB n3 0 0,pt n4 (.cells [ptr r1,ptr r2,ptr r3].toArray 138 (0,0)),FB n5 0 0]]) (fun z => n - z.1.1) ⟨(0,[],.slice none 0 0,[],.slice none 0 0,k,q,b,p),⟨rfl,rfl⟩,.start hg hm⟩ ?_ rfl ?_ ?_
    · (repeat (first|exact zM _|refine zI rfl ?_))
    · simp only [List.flatMap_nil,List.length_nil]
      exact Ent.sel
    rintro ⟨⟨i,xs,v,ps,w,k,q,b,p⟩,⟨hv,hw⟩,hl⟩
    dsimp only at hv hw hl ⊢
    obtain ⟨h1,h2,h3⟩ := hl.1
    by_cases hi : i < n
    · by_cases hk : k = 0
      · subst hk
        obtain ⟨rfl,hb⟩ := hl.good rfl
        have cb := cbad_f c3 r3 0
        have dp := dplace_B r3 b p
        have d := ctyp_u c3 r3 0 0 b p (.ok hb)
        rw [rdS_0] at d
        repeat (first|(first|refine zB ?_|refine zE ?_|refine zG ?_|refine zK ?_|refine zP ?_|refine zL rfl ?_)|(first|((first|refine zA rfl ?_|refine zZ rfl rfl ?_);first|refine JOq (yH rfl rfl (by omega)) rfl ?_|refine zD rfl rfl ?_|refine yA rfl rfl rfl ?_|refine xD rfl rfl ?_|refine zN rfl (cb) rfl ?_)))
        refine uI (α := { u : Value // u.oneCell' = true }) (fun _ => [(2,ptr n2),(3,ptr n3),(4,ptr n4),(5,ptr n5),(6,ptr n6),(7,ptr c3),(8,.int .i64 (n : Int)),(11,.int .i64 (i : Int))]) (fun u => [yC 60 2 v xs.length (xs.flatMap yI),yC 3 1 u.1 (ps.length + 1) (ints ps ++ [.int .i64 p]),MB n6 v0 v1 v (.slice none 0 0) w0 w1 u.1 (.slice none 0 0),vU c3 r3 0 0,DrB r3 b p,Pk [yC 50 3 v1 ts.length (ts.flatMap wA),yB wS ts,yC 3 1 w1 as2.length (ints as2),yC 58 6 v0 ns.length (ns.flatMap xR),yB wG ns,yC 3 1 w0 as1.length (ints as1),pt n2 (.cells (vN vH).toArray 28 (0,0)),FB n3 0 0,pt n4 (.cells [ptr r1,ptr r2,ptr r3].toArray 138 (0,0)),FB n5 0 0]]) ?_ ?_
        · refine J_calm ?_
          refine tM 10 [MB n6 v0 v1 v (.slice none 0 0) w0 w1 w (.slice none 0 0),vU c3 r3 0 0] Ent.sel ?_
          (refine yO 0 rfl rfl (by kernel_rfl) (by kernel_rfl) (by kernel_rfl) rfl rfl rfl rfl Ent.sel (by first|exact JQ_field rfl|exact JQ_field rfl) ?_)
          (refine yO 1 rfl rfl (by kernel_rfl) (by kernel_rfl) (by kernel_rfl) rfl rfl rfl rfl Ent.sel (by first|exact xL rfl|exact xL rfl) ?_)
          (refine yO 2 rfl rfl (by kernel_rfl) (by kernel_rfl) (by kernel_rfl) rfl rfl rfl rfl Ent.sel (by first|exact xE rfl|exact xE rfl) ?_)
          (refine yO 3 rfl rfl (by kernel_rfl) (by kernel_rfl) (by kernel_rfl) rfl rfl rfl rfl Ent.sel (by first|exact yQ rfl|exact yQ rfl) ?_)
          (refine yO 4 rfl rfl (by kernel_rfl) (by kernel_rfl) (by kernel_rfl) rfl rfl rfl rfl Ent.sel (by first|exact xP rfl|exact xP rfl) ?_)
          (refine yO 5 rfl rfl (by kernel_rfl) (by kernel_rfl) (by kernel_rfl) rfl rfl rfl rfl Ent.sel (by first|exact xL rfl|exact xL rfl) ?_)
          refine wW rfl ?_
          refine xT rfl rfl (by first|exact xN|exact zX (fun _ _ _ _ h => .inr (yD _ _ _ _ h))) (zN rfl dp rfl ⟨by first|exact (fun _ => Ent.sel)|exact (fun h => absurd h (by decide))|exact (fun _ => Ent.nil),?_⟩)
          refine wW rfl ?_
          refine xT rfl rfl (by first|exact zX (fun _ _ _ _ h => .inr (yD _ _ _ _ h))|exact xN) (yP (n := 1) (vs := [.int .i64 p]) (cs := [.int .i64 p]) rfl rfl rfl (by decide) rfl (fun r9 => ⟨by first|exact (fun _ => Ent.sel)|exact (fun h => absurd h (by decide))|exact (fun _ => Ent.nil),?_⟩))
          refine wW rfl ?_
          refine xT rfl rfl (by first|exact xN|exact zX (fun _ _ _ _ h => .inr (yD _ _ _ _ h))) (wM (sz := 1) (n := ps.length) (m := 1) (news := [.int .i64 p]) rfl rfl wL rfl (by decide) rfl (by simp [Value.oneCell']) (Nat.le_trans (Nat.mul_le_mul_right _ (show ps.length + 1 ≤ 1001 by omega)) (by decide)) (by decide) rfl (fun w' hw' => ⟨by first|exact (fun _ => Ent.sel)|exact (fun h => absurd h (by decide))|exact (fun _ => Ent.nil),?_⟩))
          refine wW rfl ?_
          refine xT rfl rfl (by first|exact zX (fun _ _ _ _ h => .inr (yD _ _ _ _ h))|exact xN) (JO_field rfl rfl ⟨by first|exact (fun _ => Ent.sel)|exact (fun h => absurd h (by decide))|exact (fun _ => Ent.nil),?_⟩)
          refine wW rfl ?_
          refine xT rfl rfl (zX xC) (zW rfl rfl (by first | rfl | assumption) rfl ⟨by first|exact (fun _ => Ent.sel)|exact (fun h => absurd h (by decide))|exact (fun _ => Ent.nil),?_⟩)
          refine JM_fin rfl ?_
          all_goals exact ⟨⟨w',by assumption⟩,by (repeat (first|exact zM _|refine zI rfl ?_)),rfl,Ent.sel⟩
        rintro ⟨w',hw'⟩
        dsimp only [inB,thn] at hw' ⊢
        repeat (first|(first|refine zB ?_)|(first|((first|refine zA rfl ?_);first|refine zD rfl rfl ?_)))
        refine uI (α := { y : Value × (Int × Int) × Int × Int × List UInt8 × Int // y.1.oneCell' = true ∧ OneS (wO b p) (id y.2.1) y.2.2.1 y.2.2.2.1 y.2.2.2.2.1 y.2.2.2.2.2 }) (fun _ => [(2,ptr n2),(3,ptr n3),(4,ptr n4),(5,ptr n5),(6,ptr n6),(7,ptr c3),(8,.int .i64 (n : Int)),(11,.int .i64 (i : Int))]) (fun y => [yC 60 2 y.1.1 (xs.length + 1) (xs.flatMap yI ++ yI y.1.2.1),yC 3 1 w' (ps.length + 1) (ints ps ++ [.int .i64 p]),MB n6 v0 v1 y.1.1 (.slice none 0 0) w0 w1 w' (.slice none 0 0),vU c3 r3 y.1.2.2.1 y.1.2.2.2.1,DrB r3 y.1.2.2.2.2.1 y.1.2.2.2.2.2,Pk [yC 50 3 v1 ts.length (ts.flatMap wA),yB wS ts,yC 3 1 w1 as2.length (ints as2),yC 58 6 v0 ns.length (ns.flatMap xR),yB wG ns,yC 3 1 w0 as1.length (ints as1),pt n2 (.cells (vN vH).toArray 28 (0,0)),FB n3 0 0,pt n4 (.cells [ptr r1,ptr r2,ptr r3].toArray 138 (0,0)),FB n5 0 0]]) ?_ ?_
        · refine J_calm ?_
          refine tM 7 [MB n6 v0 v1 v (.slice none 0 0) w0 w1 w' (.slice none 0 0)] Ent.sel ?_
          (refine yO 0 rfl rfl (by kernel_rfl) (by kernel_rfl) (by kernel_rfl) rfl rfl rfl rfl Ent.sel (by first|exact JQ_field rfl|exact JQ_field rfl) ?_)
          (refine yO 1 rfl rfl (by kernel_rfl) (by kernel_rfl) (by kernel_rfl) rfl rfl rfl rfl Ent.sel (by first|exact xL rfl|exact xL rfl) ?_)
          (refine yO 2 rfl rfl (by kernel_rfl) (by kernel_rfl) (by kernel_rfl) rfl rfl rfl rfl Ent.sel (by first|exact xE rfl|exact xE rfl) ?_)
          refine wW rfl ?_
          refine xT rfl rfl (by first|exact xN|exact zX (fun _ _ _ _ h => .inr (yD _ _ _ _ h))) (yK rfl d rfl (fun y hy => ⟨by first|exact (fun _ => Ent.sel)|exact (fun h => absurd h (by decide))|exact (fun _ => Ent.nil),?_⟩))
          refine wW rfl ?_
          refine xT rfl rfl (by first|exact zX (fun _ _ _ _ h => .inr (yD _ _ _ _ h))|exact xN) (yP (n := 2) (vs := [.agg (yI _).toArray]) (cs := yI _) rfl rfl (hc := cat_agg1 2 (yI _) rfl) rfl (by decide) rfl (fun r9 => ⟨by first|exact (fun _ => Ent.sel)|exact (fun h => absurd h (by decide))|exact (fun _ => Ent.nil),?_⟩))
          refine wW rfl ?_
          refine xT rfl rfl (by first|exact xN|exact zX (fun _ _ _ _ h => .inr (yD _ _ _ _ h))) (wM (sz := 2) (n := xs.length) (m := 1) (news := yI _) rfl rfl wL rfl (by decide) rfl (edge_one _) (Nat.le_trans (Nat.mul_le_mul_right _ (show xs.length + 1 ≤ 1001 by omega)) (by decide)) (by decide) rfl (fun v' hv' => ⟨by first|exact (fun _ => Ent.sel)|exact (fun h => absurd h (by decide))|exact (fun _ => Ent.nil),?_⟩))
          refine wW rfl ?_
          refine xT rfl rfl (by first|exact zX (fun _ _ _ _ h => .inr (yD _ _ _ _ h))|exact xN) (JO_field rfl rfl ⟨by first|exact (fun _ => Ent.sel)|exact (fun h => absurd h (by decide))|exact (fun _ => Ent.nil),?_⟩)
          refine wW rfl ?_
          refine xT rfl rfl (zX xC) (zW rfl rfl (by first | rfl | assumption) rfl ⟨by first|exact (fun _ => Ent.sel)|exact (fun h => absurd h (by decide))|exact (fun _ => Ent.nil),?_⟩)
          refine JM_fin rfl ?_
          all_goals exact ⟨⟨(v',y),by assumption,hy.1⟩,by (repeat (first|exact zM _|refine zI rfl ?_)),rfl,Ent.sel⟩
        rintro ⟨⟨v',x,k2,q2,b2,p2⟩,hv',hx⟩
        dsimp only [inB,thn] at hv' hx ⊢
        repeat (first|(first|refine zB ?_|refine zE ?_)|(first|((first|refine zA rfl ?_);first|refine yZ (b := 1) rfl rfl (by omega) rfl ?_|refine zD rfl rfl ?_|refine zC rfl rfl ?_)))
        refine ⟨⟨(i + 1,xs ++ [x],v',ps ++ [p],w',k2,q2,b2,p2),⟨hv',hw'⟩,hl.step hi hx⟩,by simp only;omega,by (repeat (first|exact zM _|refine zI rfl ?_)),rfl,?_⟩
        simp only [List.flatMap_append,List.flatMap_singleton,List.length_append,List.length_singleton,ints_snoc]
        exact Ent.sel
      · have cb := cbad_t c3 r3 k q hk
        repeat (first|(first|refine zB ?_|refine zE ?_|refine zG ?_|refine zJ rfl ?_|refine xA ?_)|(first|((first|refine zA rfl ?_|refine zZ rfl rfl ?_);first|refine JOq (yH rfl rfl (by omega)) rfl ?_|refine zD rfl rfl ?_|refine yA rfl rfl rfl ?_|refine xD rfl rfl ?_|refine zN rfl (cb) rfl ?_)))
        exact ⟨⟨(xs,v,ps,w,k,q,b,p),⟨hv,hw⟩,hl.done (fun h => absurd h hk)⟩,by (repeat (first|exact zM _|refine zI rfl ?_)),rfl,Ent.sel⟩
    · repeat (first|(first|refine zB ?_|refine zE ?_|refine zG ?_|refine zJ rfl ?_|refine xA ?_)|(first|((first|refine zA rfl ?_);first|refine JOq (yS rfl rfl (by omega)) rfl ?_|refine zD rfl rfl ?_|refine yJ rfl rfl rfl ?_)|refine yU rfl rfl rfl ?_))
      exact ⟨⟨(xs,v,ps,w,k,q,b,p),⟨hv,hw⟩,hl.done (fun _ => by omega)⟩,by (repeat (first|exact zM _|refine zI rfl ?_)),rfl,Ent.sel⟩
  clear hm hg hn n
  rintro ⟨⟨cs,v2,as3,w2,k,q,b,p⟩,⟨-,-⟩,ho⟩
  dsimp only [thn] at ho ⊢
  refine wQ (Pk [yC 50 3 v1 ts.length (ts.flatMap wA),yB wS ts,yC 3 1 w1 as2.length (ints as2),yC 58 6 v0 ns.length (ns.flatMap xR),yB wG ns,yC 3 1 w0 as1.length (ints as1),pt n2 (.cells (vN vH).toArray 28 (0,0)),FB n3 0 0,pt n4 (.cells [ptr r1,ptr r2,ptr r3].toArray 138 (0,0)),FB n5 0 0]) ?_
  refine xQ (pk_out (M := [yC 50 3 v1 ts.length (ts.flatMap wA),yB wS ts,yC 3 1 w1 as2.length (ints as2),yC 58 6 v0 ns.length (ns.flatMap xR),yB wG ns,yC 3 1 w0 as1.length (ints as1),pt n2 (.cells (vN vH).toArray 28 (0,0)),FB n3 0 0,pt n4 (.cells [ptr r1,ptr r2,ptr r3].toArray 138 (0,0)),FB n5 0 0])) ?_
  simp only [List.cons_append,List.nil_append]
  rw [List.map_id] at ho
  replace hT := hT.trans (ho.bind _)
  have hG := ho.good
  clear ho hM M
  unfold tk4 at hT
  rw [rdS_bind] at hT
  generalize k = k1 at *
  generalize q = q1 at *
  generalize b = b1 at *
  generalize p = p1 at *
  have c1 := cnum_u c3 r3 k1 q1 8 b1 p1 (by decide) hG
  repeat (first|(first|refine zB ?_|refine zG ?_)|(first|((first|refine zA rfl ?_);first|refine zD rfl rfl ?_)))
  refine zA rfl (yK rfl c1 rfl (fun z hz => ?_))
  obtain ⟨n,k,q,b,p⟩ := z
  obtain ⟨h1,hn⟩ := hz
  dsimp only [id] at h1 hn ⊢
  have hm := any_many (rd := staR) h1
  have hg := h1.good
  clear c1 h1
  repeat (first|(first|refine zB ?_|refine zE ?_|refine zG ?_)|(first|((first|refine zA rfl ?_);first|refine zC rfl rfl ?_)))
  generalize hM : rdS (vR 0 8 staR) k1 q1 b1 p1 = M at hm hT
  refine xQ (L' := [yC 60 2 v2 cs.length (cs.flatMap yI),yC 3 1 w2 as3.length (ints as3),yC 50 3 v1 ts.length (ts.flatMap wA),yB wS ts,yC 3 1 w1 as2.length (ints as2),yC 58 6 v0 ns.length (ns.flatMap xR),yB wG ns,yC 3 1 w0 as1.length (ints as1),pt n2 (.cells (vN vH).toArray 28 (0,0)),FB n3 0 0,pt n4 (.cells [ptr r1,ptr r2,ptr r3].toArray 138 (0,0)),FB n5 0 0,MB n6 v0 v1 v2 (.slice none 0 0) w0 w1 w2 (.slice none 0 0),vU c3 r3 k q,DrB r3 b p]) Ent.sel ?_
  refine xQ (pk_in (M := [yC 60 2 v2 cs.length (cs.flatMap yI),yC 3 1 w2 as3.length (ints as3),yC 50 3 v1 ts.length (ts.flatMap wA),yB wS ts,yC 3 1 w1 as2.length (ints as2),yC 58 6 v0 ns.length (ns.flatMap xR),yB wG ns,yC 3 1 w0 as1.length (ints as1),pt n2 (.cells (vN vH).toArray 28 (0,0)),FB n3 0 0,pt n4 (.cells [ptr r1,ptr r2,ptr r3].toArray 138 (0,0)),FB n5 0 0]) (L := [MB n6 v0 v1 v2 (.slice none 0 0) w0 w1 w2 (.slice none 0 0),vU c3 r3 k q,DrB r3 b p])) ?_
  refine uI (α := { z : List (Sta) × Value × List Int × Value × Int × Int × List UInt8 × Int // (z.2.1.oneCell' = true ∧ z.2.2.2.1.oneCell' = true) ∧ OneS M (z.1.map erS,z.2.2.1) z.2.2.2.2.1 z.2.2.2.2.2.1 z.2.2.2.2.2.2.1 z.2.2.2.2.2.2.2 }) (fun z => [(2,ptr n2),(3,ptr n3),(4,ptr n4),(5,ptr n5),(6,ptr n6),(7,ptr c3)]) (fun z => [yC 67 2 z.1.2.1 z.1.1.length (z.1.1.flatMap vE),yB StaR z.1.1,yC 3 1 z.1.2.2.2.1 z.1.2.2.1.length (ints z.1.2.2.1),MB n6 v0 v1 v2 z.1.2.1 w0 w1 w2 z.1.2.2.2.1,vU c3 r3 z.1.2.2.2.2.1 z.1.2.2.2.2.2.1,DrB r3 z.1.2.2.2.2.2.2.1 z.1.2.2.2.2.2.2.2,Pk [yC 60 2 v2 cs.length (cs.flatMap yI),yC 3 1 w2 as3.length (ints as3),yC 50 3 v1 ts.length (ts.flatMap wA),yB wS ts,yC 3 1 w1 as2.length (ints as2),yC 58 6 v0 ns.length (ns.flatMap xR),yB wG ns,yC 3 1 w0 as1.length (ints as1),pt n2 (.cells (vN vH).toArray 28 (0,0)),FB n3 0 0,pt n4 (.cells [ptr r1,ptr r2,ptr r3].toArray 138 (0,0)),FB n5 0 0]]) ?_ ?_
  · repeat (first|(first|refine zK ?_)|(first|((first|refine zA rfl ?_);first|refine zD rfl rfl ?_)))
    refine xQ (own0 (e := 67) (sz := 2)) ?_
    refine xQ (uZ (e := 3)) ?_
    refine xQ (all_nil (R := StaR)) ?_
    refine xU (β := { z : Nat × List (Sta) × Value × List Int × Value × Int × Int × List UInt8 × Int // (z.2.2.1.oneCell' = true ∧ z.2.2.2.2.1.oneCell' = true) ∧ LoopS M staR erS n z.1 z.2.1 z.2.2.2.1 z.2.2.2.2.2.1 z.2.2.2.2.2.2.1 z.2.2.2.2.2.2.2.1 z.2.2.2.2.2.2.2.2 }) (fun z => [(2,ptr n2),(3,ptr n3),(4,ptr n4),(5,ptr n5),(6,ptr n6),(7,ptr c3),(8,.int .i64 (n : Int)),(12,.int .i64 (z.1.1 : Int))]) (fun _ => []) (fun z => [yC 67 2 z.1.2.2.1 z.1.2.1.length (z.1.2.1.flatMap vE),yB StaR z.1.2.1,yC 3 1 z.1.2.2.2.2.1 z.1.2.2.2.1.length (ints z.1.2.2.2.1),MB n6 v0 v1 v2 z.1.2.2.1 w0 w1 w2 z.1.2.2.2.2.1,vU c3 r3 z.1.2.2.2.2.2.1 z.1.2.2.2.2.2.2.1,DrB r3 z.1.2.2.2.2.2.2.2.1 z.1.2.2.2.2.2.2.2.2,Pk [yC 60 2 v2 cs.length (cs.flatMap yI),yC 3 1 w2 as3.length (ints as3),yC 50 3 v1 ts.length (ts.flatMap wA),yB wS ts,yC 3 1 w1 as2.length (ints as2),yC 58 6 v0 ns.length (ns.flatMap xR),yB wG ns,yC 3 1 w0 as1.length (ints as1),pt n2 (.cells (vN vH).toArray 28 (0,0)),FB n3 0 0,pt n4 (.cells [ptr r1,ptr r2,ptr r3].toArray 138 (0,0)),FB n5 0 0]]) (fun z => n - z.1.1) ⟨(0,[],.slice none 0 0,[],.slice none 0 0,k,q,b,p),⟨rfl,rfl⟩,.start hg hm⟩ ?_ rfl ?_ ?_
    · (repeat (first|exact zM _|refine zI rfl ?_))
    · simp only [List.flatMap_nil,List.length_nil]
      exact Ent.sel
    rintro ⟨⟨i,xs,v,ps,w,k,q,b,p⟩,⟨hv,hw⟩,hl⟩
    dsimp only at hv hw hl ⊢
    obtain ⟨h1,h2,h3⟩ := hl.1
    by_cases hi : i < n
    · by_cases hk : k = 0
      · subst hk
        obtain ⟨rfl,hb⟩ := hl.good rfl
        have cb := cbad_f c3 r3 0
        have dp := dplace_B r3 b p
        have d := csta_u c3 r3 b p hb
        repeat (first|(first|refine zB ?_|refine zE ?_|refine zG ?_|refine zK ?_|refine zP ?_|refine zL rfl ?_)|(first|((first|refine zA rfl ?_|refine zZ rfl rfl ?_);first|refine JOq (yH rfl rfl (by omega)) rfl ?_|refine zD rfl rfl ?_|refine yA rfl rfl rfl ?_|refine xD rfl rfl ?_|refine zN rfl (cb) rfl ?_)))
        refine uI (α := { u : Value // u.oneCell' = true }) (fun _ => [(2,ptr n2),(3,ptr n3),(4,ptr n4),(5,ptr n5),(6,ptr n6),(7,ptr c3),(8,.int .i64 (n : Int)),(12,.int .i64 (i : Int))]) (fun u => [yC 67 2 v xs.length (xs.flatMap vE),yB StaR xs,yC 3 1 u.1 (ps.length + 1) (ints ps ++ [.int .i64 p]),MB n6 v0 v1 v2 v w0 w1 w2 u.1,vU c3 r3 0 0,DrB r3 b p,Pk [yC 60 2 v2 cs.length (cs.flatMap yI),yC 3 1 w2 as3.length (ints as3),yC 50 3 v1 ts.length (ts.flatMap wA),yB wS ts,yC 3 1 w1 as2.length (ints as2),yC 58 6 v0 ns.length (ns.flatMap xR),yB wG ns,yC 3 1 w0 as1.length (ints as1),pt n2 (.cells (vN vH).toArray 28 (0,0)),FB n3 0 0,pt n4 (.cells [ptr r1,ptr r2,ptr r3].toArray 138 (0,0)),FB n5 0 0]]) ?_ ?_
        · refine J_calm ?_
          refine tM 10 [MB n6 v0 v1 v2 v w0 w1 w2 w,vU c3 r3 0 0] Ent.sel ?_
          (refine yO 0 rfl rfl (by kernel_rfl) (by kernel_rfl) (by kernel_rfl) rfl rfl rfl rfl Ent.sel (by first|exact JQ_field rfl|exact JQ_field rfl) ?_)
          (refine yO 1 rfl rfl (by kernel_rfl) (by kernel_rfl) (by kernel_rfl) rfl rfl rfl rfl Ent.sel (by first|exact xL rfl|exact xL rfl) ?_)
          (refine yO 2 rfl rfl (by kernel_rfl) (by kernel_rfl) (by kernel_rfl) rfl rfl rfl rfl Ent.sel (by first|exact xE rfl|exact xE rfl) ?_)
          (refine yO 3 rfl rfl (by kernel_rfl) (by kernel_rfl) (by kernel_rfl) rfl rfl rfl rfl Ent.sel (by first|exact yQ rfl|exact yQ rfl) ?_)
          (refine yO 4 rfl rfl (by kernel_rfl) (by kernel_rfl) (by kernel_rfl) rfl rfl rfl rfl Ent.sel (by first|exact xP rfl|exact xP rfl) ?_)
          (refine yO 5 rfl rfl (by kernel_rfl) (by kernel_rfl) (by kernel_rfl) rfl rfl rfl rfl Ent.sel (by first|exact xL rfl|exact xL rfl) ?_)
          refine wW rfl ?_
          refine xT rfl rfl (by first|exact xN|exact zX (fun _ _ _ _ h => .inr (yD _ _ _ _ h))) (zN rfl dp rfl ⟨by first|exact (fun _ => Ent.sel)|exact (fun h => absurd h (by decide))|exact (fun _ => Ent.nil),?_⟩)
          refine wW rfl ?_
          refine xT rfl rfl (by first|exact zX (fun _ _ _ _ h => .inr (yD _ _ _ _ h))|exact xN) (yP (n := 1) (vs := [.int .i64 p]) (cs := [.int .i64 p]) rfl rfl rfl (by decide) rfl (fun r9 => ⟨by first|exact (fun _ => Ent.sel)|exact (fun h => absurd h (by decide))|exact (fun _ => Ent.nil),?_⟩))
          refine wW rfl ?_
          refine xT rfl rfl (by first|exact xN|exact zX (fun _ _ _ _ h => .inr (yD _ _ _ _ h))) (wM (sz := 1) (n := ps.length) (m := 1) (news := [.int .i64 p]) rfl rfl wL rfl (by decide) rfl (by simp [Value.oneCell']) (Nat.le_trans (Nat.mul_le_mul_right _ (show ps.length + 1 ≤ 1001 by omega)) (by decide)) (by decide) rfl (fun w' hw' => ⟨by first|exact (fun _ => Ent.sel)|exact (fun h => absurd h (by decide))|exact (fun _ => Ent.nil),?_⟩))
          refine wW rfl ?_
          refine xT rfl rfl (by first|exact zX (fun _ _ _ _ h => .inr (yD _ _ _ _ h))|exact xN) (JO_field rfl rfl ⟨by first|exact (fun _ => Ent.sel)|exact (fun h => absurd h (by decide))|exact (fun _ => Ent.nil),?_⟩)
          refine wW rfl ?_
          refine xT rfl rfl (zX xC) (zW rfl rfl (by first | rfl | assumption) rfl ⟨by first|exact (fun _ => Ent.sel)|exact (fun h => absurd h (by decide))|exact (fun _ => Ent.nil),?_⟩)
          refine JM_fin rfl ?_
          all_goals exact ⟨⟨w',by assumption⟩,by (repeat (first|exact zM _|refine zI rfl ?_)),rfl,Ent.sel⟩
        rintro ⟨w',hw'⟩
        dsimp only [inB,thn] at hw' ⊢
        repeat (first|(first|refine zB ?_)|(first|((first|refine zA rfl ?_);first|refine zD rfl rfl ?_)))
        refine uI (α := { y : Value × (Sta) × Int × Int × List UInt8 × Int // y.1.oneCell' = true ∧ OneS (staR b p) (erS y.2.1) y.2.2.1 y.2.2.2.1 y.2.2.2.2.1 y.2.2.2.2.2 }) (fun _ => [(2,ptr n2),(3,ptr n3),(4,ptr n4),(5,ptr n5),(6,ptr n6),(7,ptr c3),(8,.int .i64 (n : Int)),(12,.int .i64 (i : Int))]) (fun y => [yC 67 2 y.1.1 (xs.length + 1) (xs.flatMap vE ++ vE y.1.2.1),yB StaR xs,StaR y.1.2.1,yC 3 1 w' (ps.length + 1) (ints ps ++ [.int .i64 p]),MB n6 v0 v1 v2 y.1.1 w0 w1 w2 w',vU c3 r3 y.1.2.2.1 y.1.2.2.2.1,DrB r3 y.1.2.2.2.2.1 y.1.2.2.2.2.2,Pk [yC 60 2 v2 cs.length (cs.flatMap yI),yC 3 1 w2 as3.length (ints as3),yC 50 3 v1 ts.length (ts.flatMap wA),yB wS ts,yC 3 1 w1 as2.length (ints as2),yC 58 6 v0 ns.length (ns.flatMap xR),yB wG ns,yC 3 1 w0 as1.length (ints as1),pt n2 (.cells (vN vH).toArray 28 (0,0)),FB n3 0 0,pt n4 (.cells [ptr r1,ptr r2,ptr r3].toArray 138 (0,0)),FB n5 0 0]]) ?_ ?_
        · refine J_calm ?_
          refine tM 7 [MB n6 v0 v1 v2 v w0 w1 w2 w'] Ent.sel ?_
          (refine yO 0 rfl rfl (by kernel_rfl) (by kernel_rfl) (by kernel_rfl) rfl rfl rfl rfl Ent.sel (by first|exact JQ_field rfl|exact JQ_field rfl) ?_)
          (refine yO 1 rfl rfl (by kernel_rfl) (by kernel_rfl) (by kernel_rfl) rfl rfl rfl rfl Ent.sel (by first|exact xL rfl|exact xL rfl) ?_)
          (refine yO 2 rfl rfl (by kernel_rfl) (by kernel_rfl) (by kernel_rfl) rfl rfl rfl rfl Ent.sel (by first|exact xE rfl|exact xE rfl) ?_)
          refine wW rfl ?_
          refine xT rfl rfl (by first|exact xN|exact zX (fun _ _ _ _ h => .inr (yD _ _ _ _ h))) (yK rfl d rfl (fun y hy => ⟨by first|exact (fun _ => Ent.sel)|exact (fun h => absurd h (by decide))|exact (fun _ => Ent.nil),?_⟩))
          refine wW rfl ?_
          refine xT rfl rfl (by first|exact zX (fun _ _ _ _ h => .inr (yD _ _ _ _ h))|exact xN) (yP (n := 2) (vs := [.agg (vE _).toArray]) (cs := vE _) rfl rfl (hc := cat_agg1 2 (vE _) rfl) rfl (by decide) rfl (fun r9 => ⟨by first|exact (fun _ => Ent.sel)|exact (fun h => absurd h (by decide))|exact (fun _ => Ent.nil),?_⟩))
          refine wW rfl ?_
          refine xT rfl rfl (by first|exact xN|exact zX (fun _ _ _ _ h => .inr (yD _ _ _ _ h))) (wM (sz := 2) (n := xs.length) (m := 1) (news := vE _) rfl rfl wL rfl (by decide) rfl (sta_one _) (Nat.le_trans (Nat.mul_le_mul_right _ (show xs.length + 1 ≤ 1001 by omega)) (by decide)) (by decide) rfl (fun v' hv' => ⟨by first|exact (fun _ => Ent.sel)|exact (fun h => absurd h (by decide))|exact (fun _ => Ent.nil),?_⟩))
          refine wW rfl ?_
          refine xT rfl rfl (by first|exact zX (fun _ _ _ _ h => .inr (yD _ _ _ _ h))|exact xN) (JO_field rfl rfl ⟨by first|exact (fun _ => Ent.sel)|exact (fun h => absurd h (by decide))|exact (fun _ => Ent.nil),?_⟩)
          refine wW rfl ?_
          refine xT rfl rfl (zX xC) (zW rfl rfl (by first | rfl | assumption) rfl ⟨by first|exact (fun _ => Ent.sel)|exact (fun h => absurd h (by decide))|exact (fun _ => Ent.nil),?_⟩)
          refine JM_fin rfl ?_
          all_goals exact ⟨⟨(v',y),by assumption,hy⟩,by (repeat (first|exact zM _|refine zI rfl ?_)),rfl,Ent.sel⟩
        rintro ⟨⟨v',x,k2,q2,b2,p2⟩,hv',hx⟩
        dsimp only [inB,thn] at hv' hx ⊢
        repeat (first|(first|refine zB ?_|refine zE ?_)|(first|((first|refine zA rfl ?_);first|refine yZ (b := 1) rfl rfl (by omega) rfl ?_|refine zD rfl rfl ?_|refine zC rfl rfl ?_)))
        refine ⟨⟨(i + 1,xs ++ [x],v',ps ++ [p],w',k2,q2,b2,p2),⟨hv',hw'⟩,hl.step hi hx⟩,by simp only;omega,by (repeat (first|exact zM _|refine zI rfl ?_)),rfl,?_⟩
        simp only [List.flatMap_append,List.flatMap_singleton,List.length_append,List.length_singleton,ints_snoc]
        exact (Ent.sel (K := [yB StaR xs,StaR x,yC 67 2 v' (xs.length + 1) (xs.flatMap vE ++ vE x),yC 3 1 w' (ps.length + 1) (ints ps ++ [.int .i64 p]),MB n6 v0 v1 v2 v' w0 w1 w2 w',vU c3 r3 k2 q2,DrB r3 b2 p2,Pk [yC 60 2 v2 cs.length (cs.flatMap yI),yC 3 1 w2 as3.length (ints as3),yC 50 3 v1 ts.length (ts.flatMap wA),yB wS ts,yC 3 1 w1 as2.length (ints as2),yC 58 6 v0 ns.length (ns.flatMap xR),yB wG ns,yC 3 1 w0 as1.length (ints as1),pt n2 (.cells (vN vH).toArray 28 (0,0)),FB n3 0 0,pt n4 (.cells [ptr r1,ptr r2,ptr r3].toArray 138 (0,0)),FB n5 0 0]])).trans ((all_snoc up_staR).trans Ent.sel)
      · have cb := cbad_t c3 r3 k q hk
        repeat (first|(first|refine zB ?_|refine zE ?_|refine zG ?_|refine zJ rfl ?_|refine xA ?_)|(first|((first|refine zA rfl ?_|refine zZ rfl rfl ?_);first|refine JOq (yH rfl rfl (by omega)) rfl ?_|refine zD rfl rfl ?_|refine yA rfl rfl rfl ?_|refine xD rfl rfl ?_|refine zN rfl (cb) rfl ?_)))
        exact ⟨⟨(xs,v,ps,w,k,q,b,p),⟨hv,hw⟩,hl.done (fun h => absurd h hk)⟩,by (repeat (first|exact zM _|refine zI rfl ?_)),rfl,Ent.sel⟩
    · repeat (first|(first|refine zB ?_|refine zE ?_|refine zG ?_|refine zJ rfl ?_|refine xA ?_)|(first|((first|refine zA rfl ?_);first|refine JOq (yS rfl rfl (by omega)) rfl ?_|refine zD rfl rfl ?_|refine yJ rfl rfl rfl ?_)|refine yU rfl rfl rfl ?_))
      exact ⟨⟨(xs,v,ps,w,k,q,b,p),⟨hv,hw⟩,hl.done (fun _ => by omega)⟩,by (repeat (first|exact zM _|refine zI rfl ?_)),rfl,Ent.sel⟩
  clear hm hg hn n
  rintro ⟨⟨ss,v3,as4,w3,k,q,b,p⟩,⟨-,-⟩,ho⟩
  dsimp only [thn] at ho ⊢
  refine wQ (Pk [yC 60 2 v2 cs.length (cs.flatMap yI),yC 3 1 w2 as3.length (ints as3),yC 50 3 v1 ts.length (ts.flatMap wA),yB wS ts,yC 3 1 w1 as2.length (ints as2),yC 58 6 v0 ns.length (ns.flatMap xR),yB wG ns,yC 3 1 w0 as1.length (ints as1),pt n2 (.cells (vN vH).toArray 28 (0,0)),FB n3 0 0,pt n4 (.cells [ptr r1,ptr r2,ptr r3].toArray 138 (0,0)),FB n5 0 0]) ?_
  refine xQ (pk_out (M := [yC 60 2 v2 cs.length (cs.flatMap yI),yC 3 1 w2 as3.length (ints as3),yC 50 3 v1 ts.length (ts.flatMap wA),yB wS ts,yC 3 1 w1 as2.length (ints as2),yC 58 6 v0 ns.length (ns.flatMap xR),yB wG ns,yC 3 1 w0 as1.length (ints as1),pt n2 (.cells (vN vH).toArray 28 (0,0)),FB n3 0 0,pt n4 (.cells [ptr r1,ptr r2,ptr r3].toArray 138 (0,0)),FB n5 0 0])) ?_
  simp only [List.cons_append,List.nil_append]
  have ce := cend_u c3 r3 k q b p ho.good
  repeat (first|(first|refine zB ?_|refine zG ?_)|(first|((first|refine zA rfl ?_);first|refine zD rfl rfl ?_)))
  refine zA rfl (yK rfl ce rfl (fun z hE => ?_))
  obtain ⟨fc,fa⟩ := z
  dsimp only at hE ⊢
  replace hT := hT.trans (sec_end ho hE (fun (z4 : List Sta × List Int) _ b p => .ok (⟨ns.map erN,no0,ts.map erT,no0,cs,no0,z4.1,no0,as1,no0,as2,no0,as3,no0,z4.2,no0⟩ : Mdl) b p))
  rcases Decidable.em (¬ fc = 0) with hf | hf
  · rw [rdS_no _ hf] at hT
    rw [hT]
    repeat (first|(first|refine zB ?_|refine zE ?_|refine zG ?_|refine zL rfl ?_)|(first|((first|refine zA rfl ?_);first|refine JOq (vS rfl rfl (by omega)) rfl ?_|refine zO rfl rfl (by rfl) (by rfl) (by simp [Value.oneCell']) rfl ?_|refine zF rfl rfl ?_|refine zH rfl rfl ?_)))
    refine tG none [pt n5 (.cells [.int .i64 fc,.int .i64 fa].toArray 87 (0,0))] Ent.sel ?_
    repeat' (first|refine JW_fin rfl ?_|refine JW_only rfl ?_|refine JW_two rfl ?_ ?_|refine vV rfl rfl (yG (cs := vN vH) rfl rfl rfl ⟨by first|exact (fun _ => Ent.sel),?_⟩)|refine vV rfl rfl (zU rfl (by rfl) rfl ⟨by first|exact (fun _ => Ent.sel),?_⟩)|refine vV rfl rfl (zO rfl rfl (by rfl) (by rfl) (by simp [Value.oneCell']) rfl ⟨by first|exact (fun _ => Ent.sel),?_⟩))
    all_goals (refine zV ?_;exact ⟨rfl,_,uO rfl (yV (n := 8) rfl rfl) (yV (n := 2) rfl rfl),[],.nil,hf,rfl,rfl⟩)
  obtain rfl : fc = 0 := Decidable.not_not.1 hf
  have hsta := sta_facts hM ho hE
  clear hf
  obtain ⟨rfl,-⟩ := hE.good rfl
  rw [rdS_0] at hT
  clear hE ce
  repeat (first|(first|refine zB ?_|refine zE ?_|refine zG ?_|refine zP ?_|refine zJ rfl ?_)|(first|((first|refine zA rfl ?_);first|refine JOq (vW rfl rfl (by omega)) rfl ?_|refine zO rfl rfl (by rfl) (by rfl) (by simp [Value.oneCell']) rfl ?_|refine zF rfl rfl ?_|refine zH rfl rfl ?_)))
  refine wQ (yC 58 6 v0 ns.length (ns.flatMap xR)) ?_
  refine uU (fun p0 q0 hv hc => ?_)
  subst hv
  refine wQ (yC 50 3 v1 ts.length (ts.flatMap wA)) ?_
  refine uU (fun p1 q1 hv hc => ?_)
  subst hv
  refine wQ (yC 60 2 v2 cs.length (cs.flatMap yI)) ?_
  refine uU (fun p2 q2 hv hc => ?_)
  subst hv
  refine wQ (yC 67 2 v3 ss.length (ss.flatMap vE)) ?_
  refine uU (fun p3 q3 hv hc => ?_)
  subst hv
  refine wQ (yC 3 1 w0 as1.length (ints as1)) ?_
  refine uU (fun p4 q4 hv hc => ?_)
  subst hv
  refine wQ (yC 3 1 w1 as2.length (ints as2)) ?_
  refine uU (fun p5 q5 hv hc => ?_)
  subst hv
  refine wQ (yC 3 1 w2 as3.length (ints as3)) ?_
  refine uU (fun p6 q6 hv hc => ?_)
  subst hv
  refine wQ (yC 3 1 w3 as4.length (ints as4)) ?_
  refine uU (fun p7 q7 hv hc => ?_)
  subst hv
  refine xQ (L' := [yB StaR ss,Vw 6 (slc (p0,q0) ns.length) ns.length (ns.flatMap xR),yB wG ns,Vw 3 (slc (p1,q1) ts.length) ts.length (ts.flatMap wA),yB wS ts,Vw 2 (slc (p2,q2) cs.length) cs.length (cs.flatMap yI),Vw 2 (slc (p3,q3) ss.length) ss.length (ss.flatMap vE),Vw 1 (slc (p4,q4) as1.length) as1.length (ints as1),Vw 1 (slc (p5,q5) as2.length) as2.length (ints as2),Vw 1 (slc (p6,q6) as3.length) as3.length (ints as3),Vw 1 (slc (p7,q7) as4.length) as4.length (ints as4),MB n6 (slc (p0,q0) ns.length) (slc (p1,q1) ts.length) (slc (p2,q2) cs.length) (slc (p3,q3) ss.length) (slc (p4,q4) as1.length) (slc (p5,q5) as2.length) (slc (p6,q6) as3.length) (slc (p7,q7) as4.length),pt n2 (.cells (vN vH).toArray 28 (0,0)),FB n3 0 0,FB n5 0 0]) Ent.sel ?_
  refine xQ (ent_turn (B := yB StaQ ss) (fun k hk => by unfold yB at hk ⊢;exact fun z hzm => ⟨hsta z hzm,hk z hzm⟩)) ?_
  refine tG none [MB n6 (slc (p0,q0) ns.length) (slc (p1,q1) ts.length) (slc (p2,q2) cs.length) (slc (p3,q3) ss.length) (slc (p4,q4) as1.length) (slc (p5,q5) as2.length) (slc (p6,q6) as3.length) (slc (p7,q7) as4.length),FB n5 0 0] Ent.sel ?_
  repeat' (first|refine JW_fin rfl ?_|refine JW_only rfl ?_|refine JW_two rfl ?_ ?_|refine vV rfl rfl (zU rfl (by rfl) rfl ⟨by first|exact (fun _ => Ent.sel),?_⟩)|refine vV rfl rfl (zO rfl rfl (by rfl) (by rfl) (by simp [Value.oneCell']) rfl ⟨by first|exact (fun _ => Ent.sel),?_⟩))
  all_goals (refine zV ?_;refine ⟨rfl,_,uO rfl (yV (n := 8) rfl rfl) (yV (n := 2) rfl rfl),[uK ⟨ns,(p0,q0),ts,(p1,q1),cs,(p2,q2),ss,(p3,q3),as1,(p4,q4),as2,(p5,q5),as3,(p6,q6),as4,(p7,q7)⟩],?_,by rw [hT];exact ⟨⟨ns,(p0,q0),ts,(p1,q1),cs,(p2,q2),ss,(p3,q3),as1,(p4,q4),as2,(p5,q5),as3,(p6,q6),as4,(p7,q7)⟩,rfl,rfl,rfl⟩⟩;exact (Ent.sel (K := modK ⟨ns,(p0,q0),ts,(p1,q1),cs,(p2,q2),ss,(p3,q3),as1,(p4,q4),as2,(p5,q5),as3,(p6,q6),as4,(p7,q7)⟩)).trans (modR_join (L := [])))
theorem dread11_c (s : List UInt8) (hs : s.length ≤ 1000000) : Ct Tryz.prog 31 #[str s] [] (DRdP (wZ s)) := by
  by_cases hz : (tE s).1 = 0
  · exact dread11_ok s hs hz
  · exact dread11_no s hs hz
end Go.Proofs.YtickblndgihoeaaGreatDoor
