/- Layer 11: the document's Same and Places, of modules that are alike. -/
import Derived.Test.YtickblndgihoeaaGreatDoorM33
import Derived.Test.YtickblndgihoeaaGreatDoorM41
import Derived.Test.YtickblndgihoeaaGreatDoorM42
set_option linter.unusedSimpArgs false
namespace Go.Proofs.YtickblndgihoeaaGreatDoor
open Go Go.Sp
instance (t : Tem) : PersA (wS t) := ⟨pers_temR t⟩
theorem temR3 (t : Tem) {L : List HP} : Ent (wS t :: L) (Vw 3 (slc t.pa t.params.length) t.params.length (t.params.flatMap tI) :: Vw 6 (slc t.ca t.code.length) t.code.length (t.code.flatMap vC) :: yB uT t.code :: L) := ent_split (A := wS t) (M := [_,_,_]) fun k hk => star_pers (temR_K t k hk)
attribute [local irreducible] callFunc Go.method J JL JO JR JR1 JRl Ct JG JM JM1 JW JW1 JQ JQ0 JS CtD xB by8 ints yB uT uK
set_option maxHeartbeats 4000000 in
theorem dsameN_c (kind prio : Int) (ch : Bool) (e1 e2 : Int) (next : List (Int × Int)) (pn pn' : Option Addr) (kn kn' : Nat) (hb : next.length ≤ 100000) : Ct Tryz.prog 82 #[.agg (xR (⟨kind,prio,ch,(e1,e2),next,(pn,kn)⟩ : Nod)).toArray,.agg (xR (⟨kind,prio,ch,(e1,e2),next,(pn',kn')⟩ : Nod)).toArray] [Vw 2 (slc (pn,kn) next.length) next.length (next.flatMap yI),Vw 2 (slc (pn',kn') next.length) next.length (next.flatMap yI)] (wF (.bool true) []) := by
  refine yE (vs := [.agg [.int .i64 kind,.int .i64 prio,.bool ch,.int .i64 e1,.int .i64 e2,slc (pn,kn) next.length].toArray,.agg [.int .i64 kind,.int .i64 prio,.bool ch,.int .i64 e1,.int .i64 e2,slc (pn',kn') next.length].toArray]) Tryz.func82 rfl Tryz.ntmps82 (by simp) ?_
  repeat (first|(first|refine zB ?_|refine zE ?_|refine zG ?_|refine zK ?_|refine zP ?_|refine zJ rfl ?_)|(first|((first|refine zA rfl ?_|refine zZ rfl rfl ?_);first|refine JOq (JQ_neI0 rfl rfl) rfl ?_|refine JOq (JQ_neB0 rfl rfl) rfl ?_|refine JOq (JQ_neAgg (r := true) rfl rfl (eq_iiS e1 e2 9998)) rfl ?_|refine xI rfl (by simp) rfl ?_|refine zD rfl rfl ?_|refine zC rfl rfl ?_|refine yF rfl rfl ?_|refine zF rfl rfl ?_|refine zH rfl rfl ?_|refine yJ rfl rfl rfl ?_|refine yN rfl rfl (fun r => ?_))))
  rename_i n2
  revert r
  intro n3
  refine xU (β := { i : Nat // i ≤ next.length }) (fun j => [(2,ptr n2),(3,ptr n3),(5,.int .i64 (j.1 : Int))]) (fun _ => []) (fun _ => [Vw 2 (slc (pn,kn) next.length) next.length (next.flatMap yI),Vw 2 (slc (pn',kn') next.length) next.length (next.flatMap yI),pt n2 (.cells [.int .i64 kind,.int .i64 prio,.bool ch,.int .i64 e1,.int .i64 e2,slc (pn,kn) next.length].toArray 58 (0,0)),pt n3 (.cells [.int .i64 kind,.int .i64 prio,.bool ch,.int .i64 e1,.int .i64 e2,slc (pn',kn') next.length].toArray 58 (0,0))]) (fun j => next.length - j.1) ⟨0,by omega⟩ ?_ rfl Ent.sel ?_
  · (repeat (first|exact zM _|refine zI rfl ?_))
  rintro ⟨j,hj⟩
  dsimp only
  by_cases hjl : j < next.length
  · obtain ⟨z,hz⟩ : ∃ z,next[j]? = some z := ⟨_,List.getElem?_eq_getElem hjl⟩
    refine wE (φ := ∃ b o,pn = some ⟨b,o,none⟩) (fun F w hs => (Ent.sel (K := [Vw 2 (slc (pn,kn) next.length) next.length (next.flatMap yI)]) F w hs).tail.out (fun k hk => xW (by omega) k hk)) (fun hp => ?_)
    obtain ⟨q3,o3,rfl⟩ := hp
    refine wE (φ := ∃ b o,pn' = some ⟨b,o,none⟩) (fun F w hs => (Ent.sel (K := [Vw 2 (slc (pn',kn') next.length) next.length (next.flatMap yI)]) F w hs).tail.out (fun k hk => xW (by omega) k hk)) (fun hp => ?_)
    obtain ⟨q4,o4,rfl⟩ := hp
    repeat (first|(first|refine zB ?_|refine zE ?_|refine zG ?_|refine zK ?_|refine zP ?_|refine zL rfl ?_)|(first|((first|refine zA rfl ?_);first|refine JOq (yH rfl rfl (by omega)) rfl ?_|refine zD rfl rfl ?_|refine yF rfl rfl ?_|refine zF rfl rfl ?_|refine zH rfl rfl ?_)))
    repeat (first|refine vO ?_|refine tA rfl ?_|refine JG_n rfl rfl rfl (by kernel_rfl) (by kernel_rfl) rfl Ent.sel (by first|exact JQ_index rfl rfl hjl|exact xF (yI z) rfl (fun u v hu => xG (b := q3) (o := o3) (n := next.length) (cap := kn) (j := j) hjl (by rw [yY edgeC_len _ _ _ _ (by have := (List.getElem?_eq_some_iff.1 hu).1;exact this) hz];exact hu)) rfl|exact xF (yI z) rfl (fun u v hu => xG (b := q4) (o := o4) (n := next.length) (cap := kn') (j := j) hjl (by rw [yY edgeC_len _ _ _ _ (by have := (List.getElem?_eq_some_iff.1 hu).1;exact this) hz];exact hu)) rfl|exact JQ_neAgg (r := true) rfl rfl (eq_iiS z.1 z.2 9998)|exact xE rfl|exact xL rfl|exact xP rfl) ?_)
    repeat (first|(first|refine zB ?_|refine zE ?_|refine zP ?_|refine zJ rfl ?_)|(first|((first|refine zA rfl ?_);first|refine yZ (b := 1) rfl rfl (by omega) rfl ?_|refine zD rfl rfl ?_|refine zC rfl rfl ?_)))
    exact ⟨⟨j + 1,by omega⟩,by simp only;omega,by (repeat (first|exact zM _|refine zI rfl ?_)),rfl,Ent.sel⟩
  obtain rfl : j = next.length := by omega
  repeat (first|(first|refine zB ?_|refine zE ?_|refine zG ?_|refine zJ rfl ?_|refine xA ?_|refine zV ?_)|(first|((first|refine zA rfl ?_);first|refine JOq (yS rfl rfl (by omega)) rfl ?_|refine zD rfl rfl ?_|refine zC rfl rfl ?_|refine yF rfl rfl ?_|refine zF rfl rfl ?_|refine zH rfl rfl ?_)))
  exact zY rfl rfl .nil
set_option maxHeartbeats 4000000 in
theorem dsameS_c (tm : Int) (args : List Ar) (pa pa' : Option Addr) (ka ka' : Nat) (hb : args.length ≤ 100000) : Ct Tryz.prog 84 #[.agg (vE (⟨tm,args,(pa,ka)⟩ : Sta)).toArray,.agg (vE (⟨tm,args,(pa',ka')⟩ : Sta)).toArray] [Vw 3 (slc (pa,ka) args.length) args.length (args.flatMap arC),Vw 3 (slc (pa',ka') args.length) args.length (args.flatMap arC)] (wF (.bool true) []) := by
  refine yE (vs := [.agg [.int .i64 tm,slc (pa,ka) args.length].toArray,.agg [.int .i64 tm,slc (pa',ka') args.length].toArray]) Tryz.func84 rfl Tryz.ntmps84 (by simp) ?_
  repeat (first|(first|refine zB ?_|refine zE ?_|refine zG ?_|refine zK ?_|refine zP ?_|refine zJ rfl ?_)|(first|((first|refine zA rfl ?_|refine zZ rfl rfl ?_);first|refine JOq (JQ_neI0 rfl rfl) rfl ?_|refine zD rfl rfl ?_|refine zC rfl rfl ?_|refine yF rfl rfl ?_|refine zF rfl rfl ?_|refine zH rfl rfl ?_|refine yJ rfl rfl rfl ?_|refine yN rfl rfl (fun r => ?_))))
  rename_i n2
  revert r
  intro n3
  refine xU (β := { i : Nat // i ≤ args.length }) (fun j => [(2,ptr n2),(3,ptr n3),(5,.int .i64 (j.1 : Int))]) (fun _ => []) (fun _ => [Vw 3 (slc (pa,ka) args.length) args.length (args.flatMap arC),Vw 3 (slc (pa',ka') args.length) args.length (args.flatMap arC),pt n2 (.cells [.int .i64 tm,slc (pa,ka) args.length].toArray 67 (0,0)),pt n3 (.cells [.int .i64 tm,slc (pa',ka') args.length].toArray 67 (0,0))]) (fun j => args.length - j.1) ⟨0,by omega⟩ ?_ rfl Ent.sel ?_
  · (repeat (first|exact zM _|refine zI rfl ?_))
  rintro ⟨j,hj⟩
  dsimp only
  by_cases hjl : j < args.length
  · obtain ⟨z,hz⟩ : ∃ z,args[j]? = some z := ⟨_,List.getElem?_eq_getElem hjl⟩
    refine wE (φ := ∃ b o,pa = some ⟨b,o,none⟩) (fun F w hs => (Ent.sel (K := [Vw 3 (slc (pa,ka) args.length) args.length (args.flatMap arC)]) F w hs).tail.out (fun k hk => xW (by omega) k hk)) (fun hp => ?_)
    obtain ⟨q3,o3,rfl⟩ := hp
    refine wE (φ := ∃ b o,pa' = some ⟨b,o,none⟩) (fun F w hs => (Ent.sel (K := [Vw 3 (slc (pa',ka') args.length) args.length (args.flatMap arC)]) F w hs).tail.out (fun k hk => xW (by omega) k hk)) (fun hp => ?_)
    obtain ⟨q4,o4,rfl⟩ := hp
    repeat (first|(first|refine zB ?_|refine zE ?_|refine zG ?_|refine zK ?_|refine zP ?_|refine zL rfl ?_)|(first|((first|refine zA rfl ?_);first|refine JOq (yH rfl rfl (by omega)) rfl ?_|refine zD rfl rfl ?_|refine yF rfl rfl ?_|refine zF rfl rfl ?_|refine zH rfl rfl ?_)))
    repeat (first|refine vO ?_|refine tA rfl ?_|refine JG_n rfl rfl rfl (by kernel_rfl) (by kernel_rfl) rfl Ent.sel (by first|exact JQ_index rfl rfl hjl|exact xF (arC z) rfl (fun u v hu => xG (b := q3) (o := o3) (n := args.length) (cap := ka) (j := j) hjl (by rw [yY arC_len _ _ _ _ (by have := (List.getElem?_eq_some_iff.1 hu).1;exact this) hz];exact hu)) rfl|exact xF (arC z) rfl (fun u v hu => xG (b := q4) (o := o4) (n := args.length) (cap := ka') (j := j) hjl (by rw [yY arC_len _ _ _ _ (by have := (List.getElem?_eq_some_iff.1 hu).1;exact this) hz];exact hu)) rfl|exact JQ_neAgg (r := true) rfl rfl (eq_ar z)|exact xE rfl|exact xL rfl|exact xP rfl) ?_)
    repeat (first|(first|refine zB ?_|refine zE ?_|refine zP ?_|refine zJ rfl ?_)|(first|((first|refine zA rfl ?_);first|refine yZ (b := 1) rfl rfl (by omega) rfl ?_|refine zD rfl rfl ?_|refine zC rfl rfl ?_)))
    exact ⟨⟨j + 1,by omega⟩,by simp only;omega,by (repeat (first|exact zM _|refine zI rfl ?_)),rfl,Ent.sel⟩
  obtain rfl : j = args.length := by omega
  repeat (first|(first|refine zB ?_|refine zE ?_|refine zG ?_|refine zJ rfl ?_|refine xA ?_|refine zV ?_)|(first|((first|refine zA rfl ?_);first|refine JOq (yS rfl rfl (by omega)) rfl ?_|refine zD rfl rfl ?_|refine zC rfl rfl ?_|refine yF rfl rfl ?_|refine zF rfl rfl ?_|refine zH rfl rfl ?_)))
  exact zY rfl rfl .nil
set_option maxHeartbeats 4000000 in
theorem dints_c (l : List Int) (a a' : SA) (hb : l.length ≤ 100000) : Ct Tryz.prog 85 #[slc a l.length,slc a' l.length] [Vw 1 (slc a l.length) l.length (ints l),Vw 1 (slc a' l.length) l.length (ints l)] (wF (.bool true) []) := by
  obtain ⟨p,k⟩ := a
  obtain ⟨p',k'⟩ := a'
  refine yE (vs := [_,_]) Tryz.func85 rfl Tryz.ntmps85 (by simp) ?_
  repeat (first|(first|refine zB ?_|refine zE ?_|refine zG ?_|refine zK ?_|refine zP ?_|refine zJ rfl ?_)|(first|((first|refine zA rfl ?_);first|refine JOq (JQ_neI0 rfl rfl) rfl ?_|refine zD rfl rfl ?_|refine zC rfl rfl ?_|refine yF rfl rfl ?_)))
  refine xU (β := { i : Nat // i ≤ l.length }) (fun j => [(0,slc (p,k) l.length),(1,slc (p',k') l.length),(5,.int .i64 (j.1 : Int))]) (fun _ => []) (fun _ => [Vw 1 (slc (p,k) l.length) l.length (ints l),Vw 1 (slc (p',k') l.length) l.length (ints l)]) (fun j => l.length - j.1) ⟨0,by omega⟩ ?_ rfl Ent.sel ?_
  · (repeat (first|exact zM _|refine zI rfl ?_))
  rintro ⟨j,hj⟩
  dsimp only
  by_cases hjl : j < l.length
  · obtain ⟨z,hz⟩ : ∃ z,l[j]? = some z := ⟨_,List.getElem?_eq_getElem hjl⟩
    refine wE (φ := ∃ b o,p = some ⟨b,o,none⟩) (fun F w hs => (Ent.sel (K := [Vw 1 (slc (p,k) l.length) l.length (ints l)]) F w hs).tail.out (fun k hk => xW (by omega) k hk)) (fun hp => ?_)
    obtain ⟨q3,o3,rfl⟩ := hp
    refine wE (φ := ∃ b o,p' = some ⟨b,o,none⟩) (fun F w hs => (Ent.sel (K := [Vw 1 (slc (p',k') l.length) l.length (ints l)]) F w hs).tail.out (fun k hk => xW (by omega) k hk)) (fun hp => ?_)
    obtain ⟨q4,o4,rfl⟩ := hp
    repeat (first|(first|refine zB ?_|refine zE ?_|refine zG ?_|refine zK ?_|refine zP ?_|refine zL rfl ?_)|(first|((first|refine zA rfl ?_);first|refine JOq (yH rfl rfl (by omega)) rfl ?_|refine zD rfl rfl ?_|refine yF rfl rfl ?_)))
    repeat (first|refine vO ?_|refine tA rfl ?_|refine JG_n rfl rfl rfl (by kernel_rfl) (by kernel_rfl) rfl Ent.sel (by first|exact JQ_index1 (j := j) rfl rfl hjl|exact tC rfl (lds_vw1 (b := q3) (o := o3) (n := l.length) (cap := k) (j := j) hjl (ints_get hz))|exact tC rfl (lds_vw1 (b := q4) (o := o4) (n := l.length) (cap := k') (j := j) hjl (ints_get hz))|exact JQ_neI0 rfl rfl|exact xE rfl) ?_)
    repeat (first|(first|refine zB ?_|refine zE ?_|refine zP ?_|refine zJ rfl ?_)|(first|((first|refine zA rfl ?_);first|refine yZ (b := 1) rfl rfl (by omega) rfl ?_|refine zD rfl rfl ?_|refine zC rfl rfl ?_)))
    exact ⟨⟨j + 1,by omega⟩,by simp only;omega,by (repeat (first|exact zM _|refine zI rfl ?_)),rfl,Ent.sel⟩
  obtain rfl : j = l.length := by omega
  repeat (first|(first|refine zB ?_|refine zE ?_|refine zG ?_|refine zJ rfl ?_|refine xA ?_|refine zV ?_)|(first|((first|refine zA rfl ?_);first|refine JOq (yS rfl rfl (by omega)) rfl ?_|refine zD rfl rfl ?_|refine zC rfl rfl ?_|refine yF rfl rfl ?_)))
  exact zY rfl rfl .nil
set_option synthInstance.maxHeartbeats 400000 in
set_option maxHeartbeats 8000000 in
theorem dsameT_c (params : List Prm) (code code' : List YI) (pp pp' pc pc' : Option Addr) (kp kp' kc kc' : Nat) (wt wt' : List Int) (wta wta' : SA) (hco : code.map erY = code'.map erY) (hb : params.length ≤ 100000 ∧ code.length ≤ 100000) : Ct Tryz.prog 83 #[.agg (wA (⟨params,(pp,kp),code,(pc,kc),wt,wta⟩ : Tem)).toArray,.agg (wA (⟨params,(pp',kp'),code',(pc',kc'),wt',wta'⟩ : Tem)).toArray] [wS (⟨params,(pp,kp),code,(pc,kc),wt,wta⟩ : Tem),wS (⟨params,(pp',kp'),code',(pc',kc'),wt',wta'⟩ : Tem)] (wF (.bool true) []) := by
  obtain ⟨lc,gc⟩ := map_two hco
  refine Ct.heap ((temR3 _).trans ((Ent.sel (K := wS (⟨params,(pp',kp'),code',(pc',kc'),wt',wta'⟩ : Tem) :: [Vw 3 (slc (pp,kp) params.length) params.length (params.flatMap tI),Vw 6 (slc (pc,kc) code.length) code.length (code.flatMap vC),yB uT code])).trans ((temR3 _).trans (Ent.sel (K := [Vw 3 (slc (pp,kp) params.length) params.length (params.flatMap tI),Vw 6 (slc (pc,kc) code.length) code.length (code.flatMap vC),yB uT code,Vw 3 (slc (pp',kp') params.length) params.length (params.flatMap tI),Vw 6 (slc (pc',kc') code'.length) code'.length (code'.flatMap vC),yB uT code']))))) ?_
  refine yE (vs := [.agg [slc (pp,kp) params.length,slc (pc,kc) code.length,slc wta wt.length].toArray,.agg [slc (pp',kp') params.length,slc (pc',kc') code'.length,slc wta' wt'.length].toArray]) Tryz.func83 rfl Tryz.ntmps83 (by simp) ?_
  rw [← lc]
  repeat (first|(first|refine zB ?_|refine zE ?_|refine zG ?_|refine zK ?_|refine zP ?_|refine zJ rfl ?_)|(first|((first|refine zA rfl ?_|refine zZ rfl rfl ?_);first|refine JOq (JQ_neI0 rfl rfl) rfl ?_|refine zD rfl rfl ?_|refine zC rfl rfl ?_|refine yF rfl rfl ?_|refine zF rfl rfl ?_|refine zH rfl rfl ?_|refine yJ rfl rfl rfl ?_|refine yN rfl rfl (fun r => ?_))))
  rename_i n2
  revert r
  intro n3
  refine xU (β := { i : Nat // i ≤ params.length }) (fun j => [(2,ptr n2),(3,ptr n3),(5,.int .i64 (j.1 : Int))]) (fun _ => []) (fun _ => [Vw 3 (slc (pp,kp) params.length) params.length (params.flatMap tI),Vw 6 (slc (pc,kc) code.length) code.length (code.flatMap vC),yB uT code,Vw 3 (slc (pp',kp') params.length) params.length (params.flatMap tI),Vw 6 (slc (pc',kc') code.length) code.length (code'.flatMap vC),yB uT code',pt n2 (.cells [slc (pp,kp) params.length,slc (pc,kc) code.length,slc wta wt.length].toArray 50 (0,0)),pt n3 (.cells [slc (pp',kp') params.length,slc (pc',kc') code.length,slc wta' wt'.length].toArray 50 (0,0))]) (fun j => params.length - j.1) ⟨0,by omega⟩ ?_ rfl Ent.sel ?_
  · (repeat (first|exact zM _|refine zI rfl ?_))
  rintro ⟨j,hj⟩
  dsimp only
  by_cases hjl : j < params.length
  · obtain ⟨z,hz⟩ : ∃ z,params[j]? = some z := ⟨_,List.getElem?_eq_getElem hjl⟩
    refine wE (φ := ∃ b o,pp = some ⟨b,o,none⟩) (fun F w hs => (Ent.sel (K := [Vw 3 (slc (pp,kp) params.length) params.length (params.flatMap tI)]) F w hs).tail.out (fun k hk => xW (by omega) k hk)) (fun hp => ?_)
    obtain ⟨q3,o3,rfl⟩ := hp
    refine wE (φ := ∃ b o,pp' = some ⟨b,o,none⟩) (fun F w hs => (Ent.sel (K := [Vw 3 (slc (pp',kp') params.length) params.length (params.flatMap tI)]) F w hs).tail.out (fun k hk => xW (by omega) k hk)) (fun hp => ?_)
    obtain ⟨q4,o4,rfl⟩ := hp
    repeat (first|(first|refine zB ?_|refine zE ?_|refine zG ?_|refine zK ?_|refine zP ?_|refine zL rfl ?_)|(first|((first|refine zA rfl ?_);first|refine JOq (yH rfl rfl (by omega)) rfl ?_|refine zD rfl rfl ?_|refine yF rfl rfl ?_|refine zF rfl rfl ?_|refine zH rfl rfl ?_)))
    repeat (first|refine vO ?_|refine tA rfl ?_|refine JG_n rfl rfl rfl (by kernel_rfl) (by kernel_rfl) rfl Ent.sel (by first|exact JQ_index rfl rfl hjl|exact xF (tI z) rfl (fun u v hu => xG (b := q3) (o := o3) (n := params.length) (cap := kp) (j := j) hjl (by rw [yY prmC_len _ _ _ _ (by have := (List.getElem?_eq_some_iff.1 hu).1;exact this) hz];exact hu)) rfl|exact xF (tI z) rfl (fun u v hu => xG (b := q4) (o := o4) (n := params.length) (cap := kp') (j := j) hjl (by rw [yY prmC_len _ _ _ _ (by have := (List.getElem?_eq_some_iff.1 hu).1;exact this) hz];exact hu)) rfl|exact JQ_neAgg (r := true) rfl rfl (eq_prm z)|exact xE rfl|exact xL rfl|exact xP rfl) ?_)
    repeat (first|(first|refine zB ?_|refine zE ?_|refine zP ?_|refine zJ rfl ?_)|(first|((first|refine zA rfl ?_);first|refine yZ (b := 1) rfl rfl (by omega) rfl ?_|refine zD rfl rfl ?_|refine zC rfl rfl ?_)))
    exact ⟨⟨j + 1,by omega⟩,by simp only;omega,by (repeat (first|exact zM _|refine zI rfl ?_)),rfl,Ent.sel⟩
  obtain rfl : j = params.length := by omega
  repeat (first|(first|refine zB ?_|refine zE ?_|refine zG ?_|refine zK ?_|refine zJ rfl ?_|refine xA ?_)|(first|((first|refine zA rfl ?_);first|refine JOq (yS rfl rfl (by omega)) rfl ?_|refine zD rfl rfl ?_|refine zC rfl rfl ?_|refine yF rfl rfl ?_|refine zF rfl rfl ?_|refine zH rfl rfl ?_)))
  refine xU (β := { i : Nat // i ≤ code.length }) (fun j => [(2,ptr n2),(3,ptr n3),(6,.int .i64 (j.1 : Int))]) (fun _ => []) (fun _ => [Vw 3 (slc (pp,kp) params.length) params.length (params.flatMap tI),Vw 6 (slc (pc,kc) code.length) code.length (code.flatMap vC),yB uT code,Vw 3 (slc (pp',kp') params.length) params.length (params.flatMap tI),Vw 6 (slc (pc',kc') code.length) code.length (code'.flatMap vC),yB uT code',pt n2 (.cells [slc (pp,kp) params.length,slc (pc,kc) code.length,slc wta wt.length].toArray 50 (0,0)),pt n3 (.cells [slc (pp',kp') params.length,slc (pc',kc') code.length,slc wta' wt'.length].toArray 50 (0,0))]) (fun j => code.length - j.1) ⟨0,by omega⟩ ?_ rfl Ent.sel ?_
  · (repeat (first|exact zM _|refine zI rfl ?_))
  rintro ⟨j,hj⟩
  dsimp only
  by_cases hjl : j < code.length
  · obtain ⟨⟨x,zp,zk⟩,⟨x',zp',zk'⟩,hz,hz',hzz⟩ := gc j hjl
    obtain rfl : x = x' := (Prod.mk.inj hzz).1
    repeat (first|(first|refine zB ?_|refine zE ?_|refine zG ?_|refine zK ?_|refine zP ?_|refine zL rfl ?_)|(first|((first|refine zA rfl ?_);first|refine JOq (yH rfl rfl (by omega)) rfl ?_|refine zD rfl rfl ?_|refine yF rfl rfl ?_|refine zF rfl rfl ?_|refine zH rfl rfl ?_)))
    refine wE (φ := ∃ b o,pc = some ⟨b,o,none⟩) (fun F w hs => (Ent.sel (K := [Vw 6 (slc (pc,kc) code.length) code.length (code.flatMap vC)]) F w hs).tail.out (fun k hk => xW (by omega) k hk)) (fun hp => ?_)
    obtain ⟨q3,o3,rfl⟩ := hp
    refine wE (φ := ∃ b o,pc' = some ⟨b,o,none⟩) (fun F w hs => (Ent.sel (K := [Vw 6 (slc (pc',kc') code.length) code.length (code'.flatMap vC)]) F w hs).tail.out (fun k hk => xW (by omega) k hk)) (fun hp => ?_)
    obtain ⟨q4,o4,rfl⟩ := hp
    refine J_all uT code (x,zp,zk) pers_insR (List.mem_of_getElem? hz) ?_
    refine wE (φ := x.l.length ≤ 1000) (fun F w hs => hs.tail.out (fun k hk => by unfold uT at hk;exact hk.1.2.1)) fun hxl => ?_
    refine J_allK uT code (x,zp,zk) [Vw 1 (.slice zp x.l.length zk) x.l.length (ints x.l)] pers_insR (List.mem_of_getElem? hz) (fun k hk B hB => by unfold uT at hk;simp only [List.mem_cons,List.not_mem_nil,or_false] at hB;subst hB;exact ⟨vQ _ _ _ _,hk.2⟩) ?_
    simp only [List.cons_append,List.nil_append]
    refine J_allK uT code' (x,zp',zk') [Vw 1 (.slice zp' x.l.length zk') x.l.length (ints x.l)] pers_insR (List.mem_of_getElem? hz') (fun k hk B hB => by unfold uT at hk;simp only [List.mem_cons,List.not_mem_nil,or_false] at hB;subst hB;exact ⟨vQ _ _ _ _,hk.2⟩) ?_
    simp only [List.cons_append,List.nil_append]
    have hsm := same_c x zp zp' zk zk' (by omega)
    repeat (first|refine vO ?_|refine tA rfl ?_|refine JG_n rfl rfl rfl (by kernel_rfl) (by kernel_rfl) rfl Ent.sel (by first|exact JQ_index rfl rfl hjl|exact xF (vC (x,zp,zk)) rfl (fun u v hu => xG (b := q3) (o := o3) (n := code.length) (cap := kc) (j := j) hjl (by rw [yY insC_len _ _ _ _ (by have := (List.getElem?_eq_some_iff.1 hu).1;exact this) hz];exact hu)) rfl|exact xF (vC (x,zp',zk')) rfl (fun u v hu => xG (b := q4) (o := o4) (n := code.length) (cap := kc') (j := j) hjl (by rw [yY insC_len _ _ _ _ (by have := (List.getElem?_eq_some_iff.1 hu).1;exact this) hz'];exact hu)) rfl|exact xE rfl|exact xL rfl|exact xP rfl|exact JQ_not rfl) ?_|refine JG_jo rfl rfl rfl uX (zR rfl (hsm) rfl ⟨Ent.sel,?_⟩))
    repeat (first|(first|refine zB ?_|refine zE ?_|refine zP ?_|refine zJ rfl ?_)|(first|((first|refine zA rfl ?_);first|refine yZ (b := 1) rfl rfl (by omega) rfl ?_|refine zD rfl rfl ?_|refine zC rfl rfl ?_)))
    exact ⟨⟨j + 1,by omega⟩,by simp only;omega,by (repeat (first|exact zM _|refine zI rfl ?_)),rfl,Ent.sel⟩
  obtain rfl : j = code.length := by omega
  repeat (first|(first|refine zB ?_|refine zE ?_|refine zG ?_|refine zJ rfl ?_|refine xA ?_|refine zV ?_)|(first|((first|refine zA rfl ?_);first|refine JOq (yS rfl rfl (by omega)) rfl ?_|refine zD rfl rfl ?_|refine zC rfl rfl ?_|refine yF rfl rfl ?_|refine zF rfl rfl ?_|refine zH rfl rfl ?_)))
  exact zY rfl rfl .nil
set_option synthInstance.maxHeartbeats 400000 in
set_option synthInstance.maxSize 2000 in
set_option maxHeartbeats 16000000 in
theorem dsame11_c (a b : Mdl) (h : SameM a b) (hb : BndM a) : Ct Tryz.prog 33 #[.agg (vN a).toArray,.agg (vN b).toArray] [uK a,uK b] (wF (.bool true) []) := by
  obtain ⟨ns,⟨p1,k1⟩,ts,⟨p2,k2⟩,cs,⟨p3,k3⟩,ss,⟨p4,k4⟩,u1,u1a,u2,u2a,u3,u3a,u4,u4a⟩ := a
  obtain ⟨ns',⟨p1',k1'⟩,ts',⟨p2',k2'⟩,cs',⟨p3',k3'⟩,ss',⟨p4',k4'⟩,v1,v1a,v2,v2a,v3,v3a,v4,v4a⟩ := b
  obtain ⟨h1,h2,h3,h4⟩ := h
  obtain ⟨⟨b1,b2⟩,⟨b3,b4⟩,b5,b6,b7⟩ := hb
  dsimp only at h1 h2 h3 h4 b1 b2 b3 b4 b5 b6 b7
  subst h3
  obtain ⟨l1,g1⟩ := map_two h1
  obtain ⟨l2,g2⟩ := map_two h2
  obtain ⟨l4,g4⟩ := map_two h4
  refine Ct.heap ((modR7 _).trans ((Ent.sel (K := uK ⟨ns',(p1',k1'),ts',(p2',k2'),cs,(p3',k3'),ss',(p4',k4'),v1,v1a,v2,v2a,v3,v3a,v4,v4a⟩ :: [Vw 6 (slc (p1,k1) ns.length) ns.length (ns.flatMap xR),yB wG ns,Vw 3 (slc (p2,k2) ts.length) ts.length (ts.flatMap wA),yB wS ts,Vw 2 (slc (p3,k3) cs.length) cs.length (cs.flatMap yI),Vw 2 (slc (p4,k4) ss.length) ss.length (ss.flatMap vE),yB StaQ ss])).trans ((modR7 _).trans (Ent.sel (K := [Vw 6 (slc (p1,k1) ns.length) ns.length (ns.flatMap xR),yB wG ns,Vw 3 (slc (p2,k2) ts.length) ts.length (ts.flatMap wA),yB wS ts,Vw 2 (slc (p3,k3) cs.length) cs.length (cs.flatMap yI),Vw 2 (slc (p4,k4) ss.length) ss.length (ss.flatMap vE),yB StaQ ss,Vw 6 (slc (p1',k1') ns'.length) ns'.length (ns'.flatMap xR),yB wG ns',Vw 3 (slc (p2',k2') ts'.length) ts'.length (ts'.flatMap wA),yB wS ts',Vw 2 (slc (p3',k3') cs.length) cs.length (cs.flatMap yI),Vw 2 (slc (p4',k4') ss'.length) ss'.length (ss'.flatMap vE),yB StaQ ss']))))) ?_
  simp only [vN,← l1,← l2,← l4]
  refine yE (vs := [.agg [slc (p1,k1) ns.length,slc (p2,k2) ts.length,slc (p3,k3) cs.length,slc (p4,k4) ss.length,slc u1a u1.length,slc u2a u2.length,slc u3a u3.length,slc u4a u4.length].toArray,.agg [slc (p1',k1') ns.length,slc (p2',k2') ts.length,slc (p3',k3') cs.length,slc (p4',k4') ss.length,slc v1a v1.length,slc v2a v2.length,slc v3a v3.length,slc v4a v4.length].toArray]) Tryz.func33 rfl Tryz.ntmps33 (by simp) ?_
  repeat (first|(first|refine zB ?_|refine zE ?_|refine zG ?_|refine zK ?_|refine zP ?_|refine zJ rfl ?_)|(first|((first|refine zA rfl ?_|refine zZ rfl rfl ?_);first|refine JOq (JQ_neI0 rfl rfl) rfl ?_|refine zD rfl rfl ?_|refine zC rfl rfl ?_|refine yF rfl rfl ?_|refine zF rfl rfl ?_|refine zH rfl rfl ?_|refine yJ rfl rfl rfl ?_|refine yN rfl rfl (fun r => ?_))))
  rename_i n2
  revert r
  intro n3
  refine xU (β := { i : Nat // i ≤ ns.length }) (fun j => [(2,ptr n2),(3,ptr n3),(5,.int .i64 (j.1 : Int))]) (fun _ => []) (fun _ => [pt n2 (.cells [slc (p1,k1) ns.length,slc (p2,k2) ts.length,slc (p3,k3) cs.length,slc (p4,k4) ss.length,slc u1a u1.length,slc u2a u2.length,slc u3a u3.length,slc u4a u4.length].toArray 28 (0,0)),pt n3 (.cells [slc (p1',k1') ns.length,slc (p2',k2') ts.length,slc (p3',k3') cs.length,slc (p4',k4') ss.length,slc v1a v1.length,slc v2a v2.length,slc v3a v3.length,slc v4a v4.length].toArray 28 (0,0)),Vw 6 (slc (p1,k1) ns.length) ns.length (ns.flatMap xR),yB wG ns,Vw 3 (slc (p2,k2) ts.length) ts.length (ts.flatMap wA),yB wS ts,Vw 2 (slc (p3,k3) cs.length) cs.length (cs.flatMap yI),Vw 2 (slc (p4,k4) ss.length) ss.length (ss.flatMap vE),yB StaQ ss,Vw 6 (slc (p1',k1') ns.length) ns.length (ns'.flatMap xR),yB wG ns',Vw 3 (slc (p2',k2') ts.length) ts.length (ts'.flatMap wA),yB wS ts',Vw 2 (slc (p3',k3') cs.length) cs.length (cs.flatMap yI),Vw 2 (slc (p4',k4') ss.length) ss.length (ss'.flatMap vE),yB StaQ ss']) (fun j => ns.length - j.1) ⟨0,by omega⟩ ?_ rfl Ent.sel ?_
  · (repeat (first|exact zM _|refine zI rfl ?_))
  rintro ⟨i,hi⟩
  dsimp only
  by_cases hil : i < ns.length
  · obtain ⟨x,y,hx,hy,hxy⟩ := g1 i hil
    refine wE (φ := ∃ b o,p1 = some ⟨b,o,none⟩) (fun F w hs => (Ent.sel (K := [Vw 6 (slc (p1,k1) ns.length) ns.length (ns.flatMap xR)]) F w hs).tail.out (fun k hk => xW (by omega) k hk)) (fun hp => ?_)
    obtain ⟨q1,o1,rfl⟩ := hp
    refine wE (φ := ∃ b o,p1' = some ⟨b,o,none⟩) (fun F w hs => (Ent.sel (K := [Vw 6 (slc (p1',k1') ns.length) ns.length (ns'.flatMap xR)]) F w hs).tail.out (fun k hk => xW (by omega) k hk)) (fun hp => ?_)
    obtain ⟨q2,o2,rfl⟩ := hp
    obtain ⟨kind,prio,ch,⟨e1,e2⟩,next,⟨pn,kn⟩⟩ := x
    obtain ⟨kind',prio',ch',pay',next',⟨pn',kn'⟩⟩ := y
    simp only [erN,Nod.mk.injEq,and_true] at hxy
    obtain ⟨rfl,rfl,rfl,rfl,rfl⟩ := hxy
    have bn : next.length ≤ 100000 := b2 _ (List.mem_of_getElem? hx)
    repeat (first|(first|refine zB ?_|refine zE ?_|refine zG ?_|refine zK ?_|refine zP ?_|refine zL rfl ?_)|(first|((first|refine zA rfl ?_);first|refine JOq (yH rfl rfl (by omega)) rfl ?_|refine zD rfl rfl ?_|refine yF rfl rfl ?_|refine zF rfl rfl ?_|refine zH rfl rfl ?_)))
    refine J_all wG ns (⟨kind,prio,ch,(e1,e2),next,(pn,kn)⟩ : Nod) pers_nodR (List.mem_of_getElem? hx) ?_
    refine J_all wG ns' (⟨kind,prio,ch,(e1,e2),next,(pn',kn')⟩ : Nod) pers_nodR (List.mem_of_getElem? hy) ?_
    have hsm := dsameN_c kind prio ch e1 e2 next pn pn' kn kn' bn
    repeat (first|refine vO ?_|refine tA rfl ?_|refine JG_n rfl rfl rfl (by kernel_rfl) (by kernel_rfl) rfl Ent.sel (by first|exact JQ_index rfl rfl hil|exact xF (xR (⟨kind,prio,ch,(e1,e2),next,(pn,kn)⟩ : Nod)) rfl (fun u v hu => xG (b := q1) (o := o1) (n := ns.length) (cap := k1) (j := i) hil (by rw [yY nodC_len _ _ _ _ (by have := (List.getElem?_eq_some_iff.1 hu).1;exact this) hx];exact hu)) rfl|exact xF (xR (⟨kind,prio,ch,(e1,e2),next,(pn',kn')⟩ : Nod)) rfl (fun u v hu => xG (b := q2) (o := o2) (n := ns.length) (cap := k1') (j := i) hil (by rw [yY nodC_len _ _ _ _ (by have := (List.getElem?_eq_some_iff.1 hu).1;exact this) hy];exact hu)) rfl|exact xE rfl|exact xL rfl|exact xP rfl|exact JQ_not rfl) ?_|refine JG_jo rfl rfl rfl uX (zR rfl (hsm) rfl ⟨Ent.sel,?_⟩))
    repeat (first|(first|refine zB ?_|refine zE ?_|refine zP ?_|refine zJ rfl ?_)|(first|((first|refine zA rfl ?_);first|refine yZ (b := 1) rfl rfl (by omega) rfl ?_|refine zD rfl rfl ?_|refine zC rfl rfl ?_)))
    exact ⟨⟨i + 1,by omega⟩,by simp only;omega,by (repeat (first|exact zM _|refine zI rfl ?_)),rfl,Ent.sel⟩
  obtain rfl : i = ns.length := by omega
  repeat (first|(first|refine zB ?_|refine zE ?_|refine zG ?_|refine zK ?_|refine zJ rfl ?_|refine xA ?_)|(first|((first|refine zA rfl ?_);first|refine JOq (yS rfl rfl (by omega)) rfl ?_|refine zD rfl rfl ?_|refine zC rfl rfl ?_|refine yF rfl rfl ?_|refine zF rfl rfl ?_|refine zH rfl rfl ?_)))
  refine xU (β := { i : Nat // i ≤ ts.length }) (fun j => [(2,ptr n2),(3,ptr n3),(6,.int .i64 (j.1 : Int))]) (fun _ => []) (fun _ => [pt n2 (.cells [slc (p1,k1) ns.length,slc (p2,k2) ts.length,slc (p3,k3) cs.length,slc (p4,k4) ss.length,slc u1a u1.length,slc u2a u2.length,slc u3a u3.length,slc u4a u4.length].toArray 28 (0,0)),pt n3 (.cells [slc (p1',k1') ns.length,slc (p2',k2') ts.length,slc (p3',k3') cs.length,slc (p4',k4') ss.length,slc v1a v1.length,slc v2a v2.length,slc v3a v3.length,slc v4a v4.length].toArray 28 (0,0)),Vw 6 (slc (p1,k1) ns.length) ns.length (ns.flatMap xR),yB wG ns,Vw 3 (slc (p2,k2) ts.length) ts.length (ts.flatMap wA),yB wS ts,Vw 2 (slc (p3,k3) cs.length) cs.length (cs.flatMap yI),Vw 2 (slc (p4,k4) ss.length) ss.length (ss.flatMap vE),yB StaQ ss,Vw 6 (slc (p1',k1') ns.length) ns.length (ns'.flatMap xR),yB wG ns',Vw 3 (slc (p2',k2') ts.length) ts.length (ts'.flatMap wA),yB wS ts',Vw 2 (slc (p3',k3') cs.length) cs.length (cs.flatMap yI),Vw 2 (slc (p4',k4') ss.length) ss.length (ss'.flatMap vE),yB StaQ ss']) (fun j => ts.length - j.1) ⟨0,by omega⟩ ?_ rfl Ent.sel ?_
  · (repeat (first|exact zM _|refine zI rfl ?_))
  rintro ⟨i,hi⟩
  dsimp only
  by_cases hil : i < ts.length
  · obtain ⟨x,y,hx,hy,hxy⟩ := g2 i hil
    refine wE (φ := ∃ b o,p2 = some ⟨b,o,none⟩) (fun F w hs => (Ent.sel (K := [Vw 3 (slc (p2,k2) ts.length) ts.length (ts.flatMap wA)]) F w hs).tail.out (fun k hk => xW (by omega) k hk)) (fun hp => ?_)
    obtain ⟨q1,o1,rfl⟩ := hp
    refine wE (φ := ∃ b o,p2' = some ⟨b,o,none⟩) (fun F w hs => (Ent.sel (K := [Vw 3 (slc (p2',k2') ts.length) ts.length (ts'.flatMap wA)]) F w hs).tail.out (fun k hk => xW (by omega) k hk)) (fun hp => ?_)
    obtain ⟨q2,o2,rfl⟩ := hp
    obtain ⟨params,⟨pp,kp⟩,code,⟨pc,kc⟩,wt,wta⟩ := x
    obtain ⟨params',⟨pp',kp'⟩,code',⟨pc',kc'⟩,wt',wta'⟩ := y
    simp only [Prod.mk.injEq] at hxy
    obtain ⟨rfl,hco⟩ := hxy
    have bn : params.length ≤ 100000 ∧ code.length ≤ 100000 := b4 _ (List.mem_of_getElem? hx)
    repeat (first|(first|refine zB ?_|refine zE ?_|refine zG ?_|refine zK ?_|refine zP ?_|refine zL rfl ?_)|(first|((first|refine zA rfl ?_);first|refine JOq (yH rfl rfl (by omega)) rfl ?_|refine zD rfl rfl ?_|refine yF rfl rfl ?_|refine zF rfl rfl ?_|refine zH rfl rfl ?_)))
    refine J_all wS ts (⟨params,(pp,kp),code,(pc,kc),wt,wta⟩ : Tem) pers_temR (List.mem_of_getElem? hx) ?_
    refine J_all wS ts' (⟨params,(pp',kp'),code',(pc',kc'),wt',wta'⟩ : Tem) pers_temR (List.mem_of_getElem? hy) ?_
    have hsm := dsameT_c params code code' pp pp' pc pc' kp kp' kc kc' wt wt' wta wta' hco bn
    repeat (first|refine vO ?_|refine tA rfl ?_|refine JG_n rfl rfl rfl (by kernel_rfl) (by kernel_rfl) rfl Ent.sel (by first|exact JQ_index rfl rfl hil|exact xF (wA (⟨params,(pp,kp),code,(pc,kc),wt,wta⟩ : Tem)) rfl (fun u v hu => xG (b := q1) (o := o1) (n := ts.length) (cap := k2) (j := i) hil (by rw [yY temC_len _ _ _ _ (by have := (List.getElem?_eq_some_iff.1 hu).1;exact this) hx];exact hu)) rfl|exact xF (wA (⟨params,(pp',kp'),code',(pc',kc'),wt',wta'⟩ : Tem)) rfl (fun u v hu => xG (b := q2) (o := o2) (n := ts.length) (cap := k2') (j := i) hil (by rw [yY temC_len _ _ _ _ (by have := (List.getElem?_eq_some_iff.1 hu).1;exact this) hy];exact hu)) rfl|exact xE rfl|exact xL rfl|exact xP rfl|exact JQ_not rfl) ?_|refine JG_jo rfl rfl rfl uX (zR rfl (hsm) rfl ⟨Ent.sel,?_⟩))
    repeat (first|(first|refine zB ?_|refine zE ?_|refine zP ?_|refine zJ rfl ?_)|(first|((first|refine zA rfl ?_);first|refine yZ (b := 1) rfl rfl (by omega) rfl ?_|refine zD rfl rfl ?_|refine zC rfl rfl ?_)))
    exact ⟨⟨i + 1,by omega⟩,by simp only;omega,by (repeat (first|exact zM _|refine zI rfl ?_)),rfl,Ent.sel⟩
  obtain rfl : i = ts.length := by omega
  repeat (first|(first|refine zB ?_|refine zE ?_|refine zG ?_|refine zK ?_|refine zJ rfl ?_|refine xA ?_)|(first|((first|refine zA rfl ?_);first|refine JOq (yS rfl rfl (by omega)) rfl ?_|refine zD rfl rfl ?_|refine zC rfl rfl ?_|refine yF rfl rfl ?_|refine zF rfl rfl ?_|refine zH rfl rfl ?_)))
  refine xU (β := { i : Nat // i ≤ cs.length }) (fun j => [(2,ptr n2),(3,ptr n3),(7,.int .i64 (j.1 : Int))]) (fun _ => []) (fun _ => [pt n2 (.cells [slc (p1,k1) ns.length,slc (p2,k2) ts.length,slc (p3,k3) cs.length,slc (p4,k4) ss.length,slc u1a u1.length,slc u2a u2.length,slc u3a u3.length,slc u4a u4.length].toArray 28 (0,0)),pt n3 (.cells [slc (p1',k1') ns.length,slc (p2',k2') ts.length,slc (p3',k3') cs.length,slc (p4',k4') ss.length,slc v1a v1.length,slc v2a v2.length,slc v3a v3.length,slc v4a v4.length].toArray 28 (0,0)),Vw 6 (slc (p1,k1) ns.length) ns.length (ns.flatMap xR),yB wG ns,Vw 3 (slc (p2,k2) ts.length) ts.length (ts.flatMap wA),yB wS ts,Vw 2 (slc (p3,k3) cs.length) cs.length (cs.flatMap yI),Vw 2 (slc (p4,k4) ss.length) ss.length (ss.flatMap vE),yB StaQ ss,Vw 6 (slc (p1',k1') ns.length) ns.length (ns'.flatMap xR),yB wG ns',Vw 3 (slc (p2',k2') ts.length) ts.length (ts'.flatMap wA),yB wS ts',Vw 2 (slc (p3',k3') cs.length) cs.length (cs.flatMap yI),Vw 2 (slc (p4',k4') ss.length) ss.length (ss'.flatMap vE),yB StaQ ss']) (fun j => cs.length - j.1) ⟨0,by omega⟩ ?_ rfl Ent.sel ?_
  · (repeat (first|exact zM _|refine zI rfl ?_))
  rintro ⟨i,hi⟩
  dsimp only
  by_cases hil : i < cs.length
  · obtain ⟨z,hz⟩ : ∃ z,cs[i]? = some z := ⟨_,List.getElem?_eq_getElem hil⟩
    refine wE (φ := ∃ b o,p3 = some ⟨b,o,none⟩) (fun F w hs => (Ent.sel (K := [Vw 2 (slc (p3,k3) cs.length) cs.length (cs.flatMap yI)]) F w hs).tail.out (fun k hk => xW (by omega) k hk)) (fun hp => ?_)
    obtain ⟨q3,o3,rfl⟩ := hp
    refine wE (φ := ∃ b o,p3' = some ⟨b,o,none⟩) (fun F w hs => (Ent.sel (K := [Vw 2 (slc (p3',k3') cs.length) cs.length (cs.flatMap yI)]) F w hs).tail.out (fun k hk => xW (by omega) k hk)) (fun hp => ?_)
    obtain ⟨q4,o4,rfl⟩ := hp
    repeat (first|(first|refine zB ?_|refine zE ?_|refine zG ?_|refine zK ?_|refine zP ?_|refine zL rfl ?_)|(first|((first|refine zA rfl ?_);first|refine JOq (yH rfl rfl (by omega)) rfl ?_|refine zD rfl rfl ?_|refine yF rfl rfl ?_|refine zF rfl rfl ?_|refine zH rfl rfl ?_)))
    repeat (first|refine vO ?_|refine tA rfl ?_|refine JG_n rfl rfl rfl (by kernel_rfl) (by kernel_rfl) rfl Ent.sel (by first|exact JQ_index rfl rfl hil|exact xF (yI z) rfl (fun u v hu => xG (b := q3) (o := o3) (n := cs.length) (cap := k3) (j := i) hil (by rw [yY edgeC_len _ _ _ _ (by have := (List.getElem?_eq_some_iff.1 hu).1;exact this) hz];exact hu)) rfl|exact xF (yI z) rfl (fun u v hu => xG (b := q4) (o := o4) (n := cs.length) (cap := k3') (j := i) hil (by rw [yY edgeC_len _ _ _ _ (by have := (List.getElem?_eq_some_iff.1 hu).1;exact this) hz];exact hu)) rfl|exact JQ_neAgg (r := true) rfl rfl (eq_iiS z.1 z.2 9998)|exact xE rfl|exact xL rfl|exact xP rfl) ?_)
    repeat (first|(first|refine zB ?_|refine zE ?_|refine zP ?_|refine zJ rfl ?_)|(first|((first|refine zA rfl ?_);first|refine yZ (b := 1) rfl rfl (by omega) rfl ?_|refine zD rfl rfl ?_|refine zC rfl rfl ?_)))
    exact ⟨⟨i + 1,by omega⟩,by simp only;omega,by (repeat (first|exact zM _|refine zI rfl ?_)),rfl,Ent.sel⟩
  obtain rfl : i = cs.length := by omega
  repeat (first|(first|refine zB ?_|refine zE ?_|refine zG ?_|refine zK ?_|refine zJ rfl ?_|refine xA ?_)|(first|((first|refine zA rfl ?_);first|refine JOq (yS rfl rfl (by omega)) rfl ?_|refine zD rfl rfl ?_|refine zC rfl rfl ?_|refine yF rfl rfl ?_|refine zF rfl rfl ?_|refine zH rfl rfl ?_)))
  refine xU (β := { i : Nat // i ≤ ss.length }) (fun j => [(2,ptr n2),(3,ptr n3),(8,.int .i64 (j.1 : Int))]) (fun _ => []) (fun _ => [pt n2 (.cells [slc (p1,k1) ns.length,slc (p2,k2) ts.length,slc (p3,k3) cs.length,slc (p4,k4) ss.length,slc u1a u1.length,slc u2a u2.length,slc u3a u3.length,slc u4a u4.length].toArray 28 (0,0)),pt n3 (.cells [slc (p1',k1') ns.length,slc (p2',k2') ts.length,slc (p3',k3') cs.length,slc (p4',k4') ss.length,slc v1a v1.length,slc v2a v2.length,slc v3a v3.length,slc v4a v4.length].toArray 28 (0,0)),Vw 6 (slc (p1,k1) ns.length) ns.length (ns.flatMap xR),yB wG ns,Vw 3 (slc (p2,k2) ts.length) ts.length (ts.flatMap wA),yB wS ts,Vw 2 (slc (p3,k3) cs.length) cs.length (cs.flatMap yI),Vw 2 (slc (p4,k4) ss.length) ss.length (ss.flatMap vE),yB StaQ ss,Vw 6 (slc (p1',k1') ns.length) ns.length (ns'.flatMap xR),yB wG ns',Vw 3 (slc (p2',k2') ts.length) ts.length (ts'.flatMap wA),yB wS ts',Vw 2 (slc (p3',k3') cs.length) cs.length (cs.flatMap yI),Vw 2 (slc (p4',k4') ss.length) ss.length (ss'.flatMap vE),yB StaQ ss']) (fun j => ss.length - j.1) ⟨0,by omega⟩ ?_ rfl Ent.sel ?_
  · (repeat (first|exact zM _|refine zI rfl ?_))
  rintro ⟨i,hi⟩
  dsimp only
  by_cases hil : i < ss.length
  · obtain ⟨x,y,hx,hy,hxy⟩ := g4 i hil
    refine wE (φ := ∃ b o,p4 = some ⟨b,o,none⟩) (fun F w hs => (Ent.sel (K := [Vw 2 (slc (p4,k4) ss.length) ss.length (ss.flatMap vE)]) F w hs).tail.out (fun k hk => xW (by omega) k hk)) (fun hp => ?_)
    obtain ⟨q1,o1,rfl⟩ := hp
    refine wE (φ := ∃ b o,p4' = some ⟨b,o,none⟩) (fun F w hs => (Ent.sel (K := [Vw 2 (slc (p4',k4') ss.length) ss.length (ss'.flatMap vE)]) F w hs).tail.out (fun k hk => xW (by omega) k hk)) (fun hp => ?_)
    obtain ⟨q2,o2,rfl⟩ := hp
    obtain ⟨tm,args,⟨pa,ka⟩⟩ := x
    obtain ⟨tm',args',⟨pa',ka'⟩⟩ := y
    simp only [erS,Sta.mk.injEq,and_true] at hxy
    obtain ⟨rfl,rfl⟩ := hxy
    have bn : args.length ≤ 100000 := b7 _ (List.mem_of_getElem? hx)
    repeat (first|(first|refine zB ?_|refine zE ?_|refine zG ?_|refine zK ?_|refine zP ?_|refine zL rfl ?_)|(first|((first|refine zA rfl ?_);first|refine JOq (yH rfl rfl (by omega)) rfl ?_|refine zD rfl rfl ?_|refine yF rfl rfl ?_|refine zF rfl rfl ?_|refine zH rfl rfl ?_)))
    refine J_allK StaQ ss (⟨tm,args,(pa,ka)⟩ : Sta) [Vw 3 (slc (pa,ka) args.length) args.length (args.flatMap arC)] pers_staQ (List.mem_of_getElem? hx) (fun k hk B hB => by simp only [List.mem_cons,List.not_mem_nil,or_false] at hB;subst hB;exact ⟨vQ _ _ _ _,hk.2⟩) ?_
    simp only [List.cons_append,List.nil_append]
    refine J_allK StaQ ss' (⟨tm,args,(pa',ka')⟩ : Sta) [Vw 3 (slc (pa',ka') args.length) args.length (args.flatMap arC)] pers_staQ (List.mem_of_getElem? hy) (fun k hk B hB => by simp only [List.mem_cons,List.not_mem_nil,or_false] at hB;subst hB;exact ⟨vQ _ _ _ _,hk.2⟩) ?_
    simp only [List.cons_append,List.nil_append]
    have hsm := dsameS_c tm args pa pa' ka ka' bn
    repeat (first|refine vO ?_|refine tA rfl ?_|refine JG_n rfl rfl rfl (by kernel_rfl) (by kernel_rfl) rfl Ent.sel (by first|exact JQ_index rfl rfl hil|exact xF (vE (⟨tm,args,(pa,ka)⟩ : Sta)) rfl (fun u v hu => xG (b := q1) (o := o1) (n := ss.length) (cap := k4) (j := i) hil (by rw [yY staC_len _ _ _ _ (by have := (List.getElem?_eq_some_iff.1 hu).1;exact this) hx];exact hu)) rfl|exact xF (vE (⟨tm,args,(pa',ka')⟩ : Sta)) rfl (fun u v hu => xG (b := q2) (o := o2) (n := ss.length) (cap := k4') (j := i) hil (by rw [yY staC_len _ _ _ _ (by have := (List.getElem?_eq_some_iff.1 hu).1;exact this) hy];exact hu)) rfl|exact xE rfl|exact xL rfl|exact xP rfl|exact JQ_not rfl) ?_|refine JG_jo rfl rfl rfl uX (zR rfl (hsm) rfl ⟨Ent.sel,?_⟩))
    repeat (first|(first|refine zB ?_|refine zE ?_|refine zP ?_|refine zJ rfl ?_)|(first|((first|refine zA rfl ?_);first|refine yZ (b := 1) rfl rfl (by omega) rfl ?_|refine zD rfl rfl ?_|refine zC rfl rfl ?_)))
    exact ⟨⟨i + 1,by omega⟩,by simp only;omega,by (repeat (first|exact zM _|refine zI rfl ?_)),rfl,Ent.sel⟩
  obtain rfl : i = ss.length := by omega
  repeat (first|(first|refine zB ?_|refine zE ?_|refine zG ?_|refine zJ rfl ?_|refine xA ?_|refine zV ?_)|(first|((first|refine zA rfl ?_);first|refine JOq (yS rfl rfl (by omega)) rfl ?_|refine zD rfl rfl ?_|refine zC rfl rfl ?_|refine yF rfl rfl ?_|refine zF rfl rfl ?_|refine zH rfl rfl ?_)))
  exact zY rfl rfl .nil
end Go.Proofs.YtickblndgihoeaaGreatDoor
