/- Layer 9: what the laws use. -/
import Derived.Test.YtickblndgihoeaaGreatDoorM41
import Derived.Test.YtickblndgihoeaaGreatDoorM13
import Derived.Test.YtickblndgihoeaaGreatDoorM16
import Derived.Test.YtickblndgihoeaaGreatDoorM5
namespace Go.Proofs.YtickblndgihoeaaGreatDoor
open Go Go.Sp Go.Stop
attribute [local irreducible] callFunc Go.method J JL JO JR JR1 JRl Ct JG JM JM1 JW JW1 JQ JQ0 JS CtD xB ints WrB by8 chkA fitsP tJ
set_option maxHeartbeats 2000000 in
theorem same_c (x : Ins) (p1 p2 : Option Addr) (k1 k2 : Nat) (hm : x.l.length ≤ 1000000) : Ct Tryz.prog 135 #[.agg (insC x (.slice p1 x.l.length k1)).toArray,.agg (insC x (.slice p2 x.l.length k2)).toArray] [Vw 1 (.slice p1 x.l.length k1) x.l.length (ints x.l),Vw 1 (.slice p2 x.l.length k2) x.l.length (ints x.l)] (wF (.bool true) []) := by
  refine yE (vs := [_,_]) Tryz.func135 rfl Tryz.ntmps135 (by simp) ?_
  unfold insC
  repeat (first|(first|refine zB ?_|refine zE ?_|refine zG ?_|refine zK ?_|refine zP ?_|refine zJ rfl ?_)|(first|((first|refine zA rfl ?_|refine zZ rfl rfl ?_);first|refine JOq (JQ_neI0 rfl rfl) rfl ?_|refine zD rfl rfl ?_|refine zC rfl rfl ?_|refine yF rfl rfl ?_|refine zF rfl rfl ?_|refine zH rfl rfl ?_|refine yJ rfl rfl rfl ?_|refine yN rfl rfl (fun r => ?_))))
  rename_i n2
  revert r
  intro n3
  refine xU (β := { i : Nat // i ≤ x.l.length }) (fun i => [(2,ptr n2),(3,ptr n3),(5,.int .i64 (i.1 : Int))]) (fun _ => []) (fun _ => [pt n2 (.cells #[.int .i64 x.op,.int .i64 x.a,.int .i64 x.b,.int .i64 x.c,.int .i64 x.d,.slice p1 x.l.length k1] 52 (0,0)),pt n3 (.cells #[.int .i64 x.op,.int .i64 x.a,.int .i64 x.b,.int .i64 x.c,.int .i64 x.d,.slice p2 x.l.length k2] 52 (0,0)),Vw 1 (.slice p1 x.l.length k1) x.l.length (ints x.l),Vw 1 (.slice p2 x.l.length k2) x.l.length (ints x.l)]) (fun i => x.l.length - i.1) ⟨0,by omega⟩ ?_ rfl Ent.sel ?_
  · (repeat (first|exact zM _|refine zI rfl ?_))
  rintro ⟨i,hi⟩
  dsimp only
  by_cases hil : i < x.l.length
  · obtain ⟨z,hz⟩ : ∃ z,x.l[i]? = some z := ⟨_,List.getElem?_eq_getElem hil⟩
    refine wE (φ := ∃ b o,p1 = some ⟨b,o,none⟩) (fun F w hs => hs.tail.tail.tail.out (fun k hk => xW (by omega) k hk)) (fun hp => ?_)
    obtain ⟨q1,o1,rfl⟩ := hp
    refine wE (φ := ∃ b o,p2 = some ⟨b,o,none⟩) (fun F w hs => hs.tail.tail.tail.tail.out (fun k hk => xW (by omega) k hk)) (fun hp => ?_)
    obtain ⟨q2,o2,rfl⟩ := hp
    repeat (first|(first|refine zB ?_|refine zE ?_|refine zG ?_|refine zK ?_|refine zP ?_|refine zL rfl ?_)|(first|((first|refine zA rfl ?_);first|refine JOq (yH rfl rfl (by omega)) rfl ?_|refine zD rfl rfl ?_|refine yF rfl rfl ?_|refine zF rfl rfl ?_|refine zH rfl rfl ?_)))
    repeat (first|refine vO ?_|refine tA rfl ?_|refine JG_n rfl rfl rfl (by kernel_rfl) (by kernel_rfl) rfl Ent.sel (by first|exact JQ_index1 (j := i) rfl rfl hil|exact tC rfl (lds_vw1 (b := q1) (o := o1) (n := x.l.length) (cap := k1) (j := i) hil (ints_get hz))|exact tC rfl (lds_vw1 (b := q2) (o := o2) (n := x.l.length) (cap := k2) (j := i) hil (ints_get hz))|exact JQ_neI0 rfl rfl|exact xE rfl|exact xL rfl|exact xP rfl) ?_)
    repeat (first|(first|refine zB ?_|refine zE ?_|refine zP ?_|refine zJ rfl ?_)|(first|((first|refine zA rfl ?_);first|refine yZ (b := 1) rfl rfl (by omega) rfl ?_|refine zD rfl rfl ?_|refine zC rfl rfl ?_)))
    exact ⟨⟨i + 1,by omega⟩,by simp only;omega,by (repeat (first|exact zM _|refine zI rfl ?_)),rfl,Ent.sel⟩
  · obtain rfl : i = x.l.length := by omega
    repeat (first|(first|refine zB ?_|refine zE ?_|refine zG ?_|refine zJ rfl ?_|refine xA ?_|refine zV ?_)|(first|((first|refine zA rfl ?_);first|refine JOq (yS rfl rfl (by omega)) rfl ?_|refine zD rfl rfl ?_|refine zC rfl rfl ?_|refine yF rfl rfl ?_|refine zF rfl rfl ?_|refine zH rfl rfl ?_)))
    exact zY rfl rfl .nil
end Go.Proofs.YtickblndgihoeaaGreatDoor
