/- Layer 11: ModuleReads' walk. -/
import Derived.Test.YtickblndgihoeaaGreatDoorM49
namespace Go.Proofs.YtickblndgihoeaaGreatDoor
open Go Go.Sp
theorem dput_cut (m : Mdl) (h : FewM m) : ∃ (B : List UInt8) (e : Int),B.length ≤ 300000 ∧ Ct Tryz.prog 10 #[.agg (vN m).toArray] [uK m] (wF (.tuple #[str B,.int .i64 e]) []) := by
  rcases put_few m h with ⟨x,y,z,h1,h2,h3,hl,_⟩ | ⟨hn,_⟩
  · exact ⟨_,_,joinL_few hl,dput_ok m (bnd_few h) (ok_few h) h1 h2 h3 hl⟩
  · exact ⟨[],2,by simp,dput_bad m (bnd_few h) (by
      unfold mayB
      rcases hn with h | h | h <;> rw [h] <;> simp)⟩
attribute [local irreducible] callFunc Go.method J JL JO JR JR1 JRl Ct JG JM JM1 JW JW1 JQ JQ0 JS CtD xB ints by8 yB uK RawR wZ
set_option synthInstance.maxHeartbeats 400000 in
set_option maxHeartbeats 8000000 in
theorem moduleReads_c (s : List UInt8) (hs : s.length ≤ maxLen) (m : Mdl) (hm : CapM m) (at_ by_ : Nat) (hat : at_ < 65536) (te : TypeId) (fz : Nat × Nat) :
    Ct Tryz.prog 4 #[str s,.agg (vN m).toArray,.agg #[.int .u16 (at_ : Int),.int .u8 (by_ : Int)]] [RawR m,Gl te fz] (wF (.bool true) []) := by
  have hw := works11_c te fz
  have hf := few11_c m hm
  have hmn : min s.length 1000 ≤ s.length := Nat.min_le_left _ _
  have hsl : (s.take (min s.length 1000)).length ≤ 1000 := by rw [List.length_take];omega
  refine yE (vs := [_,_,_]) Tryz.func4 rfl Tryz.ntmps4 (by simp) ?_
  repeat (first|(first|refine zB ?_|refine zE ?_|refine zG ?_)|(first|((first|refine zA rfl ?_);first|refine zC rfl rfl ?_|refine zU rfl (by rfl) rfl ?_|refine yN rfl rfl (fun r => ?_))))
  rename_i n4
  revert r
  intro n5
  repeat (first|(first|refine zB ?_)|(first|((first|refine zA rfl ?_);first|refine yK rfl hf rfl (fun a fa => ?_))))
  obtain ⟨B,e,hB,pd⟩ := dput_cut a fa
  have c1 := alike11_c (s.take (min s.length 1000)) (by omega) te fz
  have c2 := alike11_c B (by omega) te fz
  have tu := turned11_c B at_ by_ hat (by omega)
  repeat (first|(first|refine zB ?_|refine zE ?_|refine zG ?_)|(first|((first|refine zA rfl ?_|refine zZ rfl rfl ?_);first|refine JOq (JQ_minN (n := 1000) rfl rfl) rfl ?_|refine JOq (JQ_headS (bs := s) (h := min s.length 1000) rfl rfl hmn) rfl ?_|refine zU rfl (by rfl) rfl ?_|refine yK rfl tu rfl (fun u hu => ?_)|refine zD rfl rfl ?_|refine zC rfl rfl ?_|refine JO_lenS rfl rfl ?_|refine zU rfl (by rfl) rfl ?_|refine yA rfl rfl rfl ?_|refine zT rfl rfl rfl ?_|refine zR rfl (pd) rfl ?_|refine zR rfl (c1) rfl ?_|refine zR rfl (c2) rfl ?_)))
  have c3 := alike11_c u (by omega) te fz
  repeat (first|(first|refine zE ?_|refine zV ?_)|(first|((first|refine zA rfl ?_|refine zZ rfl rfl ?_);first|refine zD rfl rfl ?_|refine zC rfl rfl ?_|refine yA rfl rfl rfl ?_|refine zR rfl (c3) rfl ?_|refine zR rfl (hw) rfl ?_)))
  exact zY rfl rfl .nil
end Go.Proofs.YtickblndgihoeaaGreatDoor
