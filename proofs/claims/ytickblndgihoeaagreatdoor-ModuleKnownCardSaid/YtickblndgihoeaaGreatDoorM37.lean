/- Layer 11: ModuleKnown's walk. -/
import Derived.Test.YtickblndgihoeaaGreatDoorM36
set_option linter.unusedSimpArgs false
namespace Go.Proofs.YtickblndgihoeaaGreatDoor
open Go Go.Sp
attribute [local irreducible] callFunc Go.method J JL JO JR JR1 JRl Ct JG JM JW JW1 JQ JQ0 JS CtD LeavesQ ints by8 chkA bytesL AllH ModR takenM temO nodeO staO sec1O sec2O sec3O joinA
set_option maxRecDepth 8000 in
set_option synthInstance.maxHeartbeats 400000 in
set_option synthInstance.maxSize 2000 in
set_option maxHeartbeats 16000000 in
theorem moduleKnown_c (te : TypeId) (fz : Nat × Nat) : Ct Tryz.prog 6 #[] [Gl te fz] (RetV (.bool true) []) := by
  have hr := read11_ok bigS (by decide) big_D
  have hj := join_c typesL codeL bootL (by decide) (by decide) (by decide)
  rw [big_join] at hj
  have hw := works11_c te fz
  have f1 := fails11_c _ (by decide) err1_D (by decide) te fz
  have f2 := fails11_c _ (by decide) err2_D (by decide) te fz
  have f3 := fails11_c _ (by decide) err3_D (by decide) te fz
  have f4 := fails11_c _ (by decide) err4_D (by decide) te fz
  have f5 := fails11_c _ (by decide) err5_D (by decide) te fz
  refine fn_ret (vs := []) Tryz.func6 rfl Tryz.ntmps6 (by simp) ?_
  repeat (first | (first | refine J_region ?_ | refine JL_nil ?_ | refine J_seq ?_) | (first | ((first | refine JL_step rfl ?_); first | refine JO_assign rfl rfl ?_)))
  refine JL_step rfl (JO_build (cs := edgeC (2, 1)) rfl rfl rfl ?_)
  refine JL_step rfl (JO_build (cs := edgeC (1, 0)) rfl rfl rfl ?_)
  refine JL_step rfl (JO_rowV edgeC [(1, 0)] edgeC_len rfl rfl rfl (by decide) (by decide) rfl (fun r0 => ?_))
  refine JL_step rfl (JO_build (cs := nodC ⟨1, 300, true, (2, 1), [(1, 0)], (some ⟨r0, 0, none⟩, 1)⟩) rfl rfl rfl ?_)
  refine JL_step rfl (JO_build (cs := edgeC (2, 0)) rfl rfl rfl ?_)
  refine JL_step rfl (JO_build (cs := edgeC (3, 200)) rfl rfl rfl ?_)
  refine JL_step rfl (JO_rowV edgeC [(2, 0), (3, 200)] edgeC_len rfl rfl rfl (by decide) (by decide) rfl (fun r1 => ?_))
  refine JL_step rfl (JO_build (cs := nodC ⟨4, 4, false, (0, 0), [(2, 0), (3, 200)], (some ⟨r1, 0, none⟩, 2)⟩) rfl rfl rfl ?_)
  refine JL_step rfl (JO_build (cs := nodC zeroN) rfl rfl rfl ?_)
  refine JL_step rfl (JO_build (cs := edgeC (0, 5)) rfl rfl rfl ?_)
  refine JL_step rfl (JO_rowV edgeC [(0, 5)] edgeC_len rfl rfl rfl (by decide) (by decide) rfl (fun r3 => ?_))
  refine JL_step rfl (JO_build (cs := nodC ⟨5, 0, false, (0, 0), [(0, 5)], (some ⟨r3, 0, none⟩, 1)⟩) rfl rfl rfl ?_)
  refine JL_step rfl (JO_build (cs := edgeC (0, 0)) rfl rfl rfl ?_)
  refine JL_step rfl (JO_rowV edgeC [(0, 0)] edgeC_len rfl rfl rfl (by decide) (by decide) rfl (fun r4 => ?_))
  refine JL_step rfl (JO_build (cs := nodC ⟨2, 0, false, (0, 0), [(0, 0)], (some ⟨r4, 0, none⟩, 1)⟩) rfl rfl rfl ?_)
  refine JL_step rfl (JO_rowV nodC (bigN (some ⟨r0, 0, none⟩, 1) (some ⟨r1, 0, none⟩, 2) (some ⟨r3, 0, none⟩, 1) (some ⟨r4, 0, none⟩, 1)) nodC_len rfl rfl rfl (by decide) (by decide) rfl (fun rn => ?_))
  refine JL_step rfl (JO_build (cs := prmC ⟨false, (0, 0)⟩) rfl rfl rfl ?_)
  refine JL_step rfl (JO_build (cs := edgeC (1, 130)) rfl rfl rfl ?_)
  refine JL_step rfl (JO_build (cs := prmC ⟨true, (1, 130)⟩) rfl rfl rfl ?_)
  refine JL_step rfl (JO_rowV prmC bigP prmC_len rfl rfl rfl (by decide) (by decide) rfl (fun rp => ?_))
  refine JL_step rfl (JO_build (cs := insnC (⟨1, -1, 0, 0, 0, []⟩, none, 0)) rfl rfl rfl ?_)
  refine JL_step rfl (JO_buildV [0] rfl rfl rfl (show ([.int .i64 0] : List Value) = ints [0] by unfold ints; rfl) rfl (by decide) rfl (fun ri => ?_))
  refine JL_step rfl (JO_build (cs := insnC (⟨11, 0, 0, 0, 0, [0]⟩, some ⟨ri, 0, none⟩, 1)) rfl rfl rfl ?_)
  refine JL_step rfl (JO_rowV insnC (bigI (some ⟨ri, 0, none⟩) 1) insC_len rfl rfl rfl (by decide) (by decide) rfl (fun rc => ?_))
  refine JL_step rfl (JO_build (cs := temC (bigT (some ⟨rp, 0, none⟩, 2) (some ⟨ri, 0, none⟩) 1 (some ⟨rc, 0, none⟩, 2))) rfl rfl rfl ?_)
  refine JL_step rfl (JO_rowV temC [(bigT (some ⟨rp, 0, none⟩, 2) (some ⟨ri, 0, none⟩) 1 (some ⟨rc, 0, none⟩, 2))] temC_len rfl rfl rfl (by decide) (by decide) rfl (fun rt => ?_))
  refine JL_step rfl (JO_build (cs := edgeC (1, 2)) rfl rfl rfl ?_)
  refine JL_step rfl (JO_rowV edgeC [(1, 2)] edgeC_len rfl rfl rfl (by decide) (by decide) rfl (fun rh => ?_))
  refine JL_step rfl (JO_build (cs := arC ⟨false, 64, 0⟩) rfl rfl rfl ?_)
  refine JL_step rfl (JO_build (cs := arC ⟨true, 0, 1⟩) rfl rfl rfl ?_)
  refine JL_step rfl (JO_rowV arC bigA arC_len rfl rfl rfl (by decide) (by decide) rfl (fun ra => ?_))
  refine JL_step rfl (JO_build (cs := staC ⟨0, bigA, (some ⟨ra, 0, none⟩, 2)⟩) rfl rfl rfl ?_)
  refine JL_step rfl (JO_rowV staC [⟨0, bigA, (some ⟨ra, 0, none⟩, 2)⟩] staC_len rfl rfl rfl (by decide) (by decide) rfl (fun rs => ?_))
  refine JL_step rfl (JO_build (cs := modC (bigM (some ⟨r0, 0, none⟩, 1) (some ⟨r1, 0, none⟩, 2) (some ⟨r3, 0, none⟩, 1) (some ⟨r4, 0, none⟩, 1) (some ⟨rn, 0, none⟩, 5) (some ⟨rp, 0, none⟩, 2) (some ⟨ri, 0, none⟩) 1 (some ⟨rc, 0, none⟩, 2) (some ⟨rt, 0, none⟩, 1) (some ⟨rh, 0, none⟩, 1) (some ⟨ra, 0, none⟩, 2) (some ⟨rs, 0, none⟩, 1))) rfl rfl rfl ?_)
  have hp := put_same (m := (bigM (some ⟨r0, 0, none⟩, 1) (some ⟨r1, 0, none⟩, 2) (some ⟨r3, 0, none⟩, 1) (some ⟨r4, 0, none⟩, 1) (some ⟨rn, 0, none⟩, 5) (some ⟨rp, 0, none⟩, 2) (some ⟨ri, 0, none⟩) 1 (some ⟨rc, 0, none⟩, 2) (some ⟨rt, 0, none⟩, 1) (some ⟨rh, 0, none⟩, 1) (some ⟨ra, 0, none⟩, 2) (some ⟨rs, 0, none⟩, 1))) big_D (big_same ..) (small_big ..)
  refine JL_heap ((Ent.sel (K := [Vw 2 (.slice (some ⟨r0, 0, none⟩) 1 1) 1 ([(1, 0)].flatMap edgeC), Vw 2 (.slice (some ⟨r1, 0, none⟩) 2 2) 2 ([(2, 0), (3, 200)].flatMap edgeC), Vw 2 (.slice (some ⟨r3, 0, none⟩) 1 1) 1 ([(0, 5)].flatMap edgeC), Vw 2 (.slice (some ⟨r4, 0, none⟩) 1 1) 1 ([(0, 0)].flatMap edgeC), Vw 6 (.slice (some ⟨rn, 0, none⟩) 5 5) 5 ((bigN (some ⟨r0, 0, none⟩, 1) (some ⟨r1, 0, none⟩, 2) (some ⟨r3, 0, none⟩, 1) (some ⟨r4, 0, none⟩, 1)).flatMap nodC), Vw 3 (.slice (some ⟨rp, 0, none⟩) 2 2) 2 (bigP.flatMap prmC), Vw 1 (.slice (some ⟨ri, 0, none⟩) 1 1) 1 (ints [0]), Vw 6 (.slice (some ⟨rc, 0, none⟩) 2 2) 2 ((bigI (some ⟨ri, 0, none⟩) 1).flatMap insnC), Vw 3 (.slice (some ⟨rt, 0, none⟩) 1 1) 1 ([(bigT (some ⟨rp, 0, none⟩, 2) (some ⟨ri, 0, none⟩) 1 (some ⟨rc, 0, none⟩, 2))].flatMap temC), Vw 2 (.slice (some ⟨rh, 0, none⟩) 1 1) 1 ([(1, 2)].flatMap edgeC), Vw 3 (.slice (some ⟨ra, 0, none⟩) 2 2) 2 (bigA.flatMap arC), Vw 2 (.slice (some ⟨rs, 0, none⟩) 1 1) 1 ([(⟨0, bigA, (some ⟨ra, 0, none⟩, 2)⟩ : Sta)].flatMap staC), Gl te fz])).trans (bigR_in (some ⟨r0, 0, none⟩, 1) (some ⟨r1, 0, none⟩, 2) (some ⟨r3, 0, none⟩, 1) (some ⟨r4, 0, none⟩, 1) (some ⟨rn, 0, none⟩, 5) (some ⟨rp, 0, none⟩, 2) (some ⟨rc, 0, none⟩, 2) (some ⟨rt, 0, none⟩, 1) (some ⟨rh, 0, none⟩, 1) (some ⟨ra, 0, none⟩, 2) (some ⟨rs, 0, none⟩, 1) (some ⟨ri, 0, none⟩))) ?_
  generalize hbm : (bigM (some ⟨r0, 0, none⟩, 1) (some ⟨r1, 0, none⟩, 2) (some ⟨r3, 0, none⟩, 1) (some ⟨r4, 0, none⟩, 1) (some ⟨rn, 0, none⟩, 5) (some ⟨rp, 0, none⟩, 2) (some ⟨ri, 0, none⟩) 1 (some ⟨rc, 0, none⟩, 2) (some ⟨rt, 0, none⟩, 1) (some ⟨rh, 0, none⟩, 1) (some ⟨ra, 0, none⟩, 2) (some ⟨rs, 0, none⟩, 1)) = bm at hp ⊢
  have hsb : SameM bm bigR := by rw [← hbm]; exact big_same ..
  clear hbm
  repeat (first | (first | refine J_region ?_ | refine JL_nil ?_ | refine J_seq ?_) | (first | ((first | refine JL_step rfl ?_ | refine JL_take rfl rfl ?_); first | refine JO_buildA (cs := [str typesL, str codeL, str bootL]) rfl rfl rfl ?_ | refine JO_callE rfl hr rfl (fun m1 hm1 => ?_) | refine JO_storeW rfl rfl (by rfl) (by rfl) (by simp [Value.oneCell']) rfl ?_ | refine JO_move rfl rfl ?_ | refine JO_assign rfl rfl ?_ | refine JO_loadW rfl (by rfl) rfl ?_ | refine JO_pickF rfl rfl rfl ?_ | refine JO_neI rfl rfl rfl ?_ | refine JO_extract rfl rfl rfl ?_ | refine JO_allocA rfl (fun r => ?_) | refine JO_callVP rfl (hp) rfl ?_ | refine JO_callVP rfl (hj) rfl ?_)))
  have hs := same11_c m1 bm (((same_er m1).trans (by rw [hm1]; exact SameM.refl _)).trans hsb.symm) (bnd_same ((same_er m1).trans (by rw [hm1]; exact SameM.refl _)) bnd_big)
  repeat (first | (first | refine J_region ?_ | refine JL_nil ?_ | refine J_seq ?_ | refine J_skip ?_ | refine J_condF rfl ?_) | (first | ((first | refine JL_step rfl ?_ | refine JL_take rfl rfl ?_); first | refine JO_q (by simp) (JQ_neS0 (a := bigS) rfl rfl) rfl ?_ | refine JO_q (by simp) (JQ_neIf0 rfl) rfl ?_ | refine JO_move rfl rfl ?_ | refine JO_loadW rfl (by rfl) rfl ?_ | refine JO_pickF rfl rfl rfl ?_ | refine JO_not rfl rfl ?_ | refine JO_callVP rfl (hs) rfl ?_)))
  refine JL_heap (Ent.sel (K := [Gl te fz])) ?_
  clear hs hp hr hj
  refine JL_step rfl (JO_build (cs := edgeC (0, 0)) rfl rfl rfl ?_)
  refine JL_step rfl (JO_rowV edgeC [(0, 0)] edgeC_len rfl rfl rfl (by decide) (by decide) rfl (fun e => ?_))
  repeat (first | (first | refine J_region ?_ | refine JL_nil ?_ | refine J_seq ?_) | (first | ((first | refine JL_step rfl ?_); first | refine JO_assign rfl rfl ?_)))
  refine JL_step rfl (JO_build (cs := nodC ⟨0, 1, false, (0, 0), [], no0⟩) rfl rfl rfl ?_)
  refine JL_step rfl (JO_build (cs := nodC ⟨6, 0, false, (0, 0), [], no0⟩) rfl rfl rfl ?_)
  refine JL_step rfl (JO_build (cs := nodC ⟨1, 0, false, (0, 0), [], no0⟩) rfl rfl rfl ?_)
  repeat (first | (first | refine J_region ?_) | (first | ((first | refine JL_step rfl ?_); first | refine JO_move rfl rfl ?_)))
  refine JL_step rfl (JO_build (cs := nodC ⟨1, 1001, false, (0, 0), [(0, 0)], (some ⟨e, 0, none⟩, 1)⟩) rfl rfl rfl ?_)
  refine JL_step rfl (JO_build (cs := edgeC (1, 0)) rfl rfl rfl ?_)
  repeat (first | (first | refine J_region ?_) | (first | ((first | refine JL_step rfl ?_); first | refine JO_move rfl rfl ?_)))
  refine JL_step rfl (JO_build (cs := nodC ⟨2, 0, false, (1, 0), [(0, 0)], (some ⟨e, 0, none⟩, 1)⟩) rfl rfl rfl ?_)
  refine JL_step rfl (JO_build (cs := nodC ⟨3, 0, false, (0, 0), [], no0⟩) rfl rfl rfl ?_)
  repeat (first | (first | refine J_region ?_) | (first | ((first | refine JL_step rfl ?_); first | refine JO_move rfl rfl ?_)))
  refine JL_step rfl (JO_build (cs := nodC ⟨3, 0, true, (0, 0), [(0, 0)], (some ⟨e, 0, none⟩, 1)⟩) rfl rfl rfl ?_)
  refine JL_step rfl (JO_makeV (n := 9) edgeC (0, 0) edgeC_len (by decide) rfl rfl rfl (by decide) (by decide) rfl (fun e9 => ?_))
  refine JL_step rfl (JO_build (cs := nodC ⟨4, 0, false, (0, 0), List.replicate 9 (0, 0), (some ⟨e9, 0, none⟩, 9)⟩) rfl rfl rfl ?_)
  refine JL_step rfl (JO_build (cs := nodC ⟨5, 0, false, (0, 0), [], no0⟩) rfl rfl rfl ?_)
  repeat (first | (first | refine J_region ?_) | (first | ((first | refine JL_step rfl ?_); first | refine JO_move rfl rfl ?_)))
  refine JL_step rfl (JO_build (cs := nodC ⟨5, 1, false, (0, 0), [(0, 0)], (some ⟨e, 0, none⟩, 1)⟩) rfl rfl rfl ?_)
  repeat (first | (first | refine J_region ?_) | (first | ((first | refine JL_step rfl ?_); first | refine JO_move rfl rfl ?_)))
  refine JL_step rfl (JO_build (cs := nodC ⟨0, 0, false, (0, 0), [(0, 0)], (some ⟨e, 0, none⟩, 1)⟩) rfl rfl rfl ?_)
  refine JL_step rfl (JO_build (cs := edgeC (64, 0)) rfl rfl rfl ?_)
  refine JL_step rfl (JO_rowV edgeC [(64, 0)] edgeC_len rfl rfl rfl (by decide) (by decide) rfl (fun e64 => ?_))
  refine JL_step rfl (JO_build (cs := nodC ⟨1, 0, false, (0, 0), [(64, 0)], (some ⟨e64, 0, none⟩, 1)⟩) rfl rfl rfl ?_)
  refine JL_step rfl (JO_build (cs := edgeC (0, 1001)) rfl rfl rfl ?_)
  refine JL_step rfl (JO_rowV edgeC [(0, 1001)] edgeC_len rfl rfl rfl (by decide) (by decide) rfl (fun e10 => ?_))
  refine JL_step rfl (JO_build (cs := nodC ⟨1, 0, false, (0, 0), [(0, 1001)], (some ⟨e10, 0, none⟩, 1)⟩) rfl rfl rfl ?_)
  refine JL_step rfl (JO_rowV nodC (badN (some ⟨e, 0, none⟩, 1) (some ⟨e9, 0, none⟩, 9) (some ⟨e64, 0, none⟩, 1) (some ⟨e10, 0, none⟩, 1)) nodC_len rfl rfl rfl (by decide) (by decide) rfl (fun rb => ?_))
  have hno := badN_no (some ⟨e, 0, none⟩, 1) (some ⟨e9, 0, none⟩, 9) (some ⟨e64, 0, none⟩, 1) (some ⟨e10, 0, none⟩, 1)
  refine JL_heap ((Ent.sel (K := [Vw 2 (.slice (some ⟨e, 0, none⟩) 1 1) 1 ([(0, 0)].flatMap edgeC), Vw 2 (.slice (some ⟨e9, 0, none⟩) 9 9) 9 ((List.replicate 9 (0, 0)).flatMap edgeC), Vw 2 (.slice (some ⟨e64, 0, none⟩) 1 1) 1 ([(64, 0)].flatMap edgeC), Vw 2 (.slice (some ⟨e10, 0, none⟩) 1 1) 1 ([(0, 1001)].flatMap edgeC), Vw 6 (.slice (some ⟨rb, 0, none⟩) 13 13) 13 ((badN (some ⟨e, 0, none⟩, 1) (some ⟨e9, 0, none⟩, 9) (some ⟨e64, 0, none⟩, 1) (some ⟨e10, 0, none⟩, 1)).flatMap nodC), Gl te fz])).trans (badN_in (some ⟨e, 0, none⟩, 1) (some ⟨e9, 0, none⟩, 9) (some ⟨e64, 0, none⟩, 1) (some ⟨e10, 0, none⟩, 1))) ?_
  obtain ⟨bl, hbl⟩ : ∃ l, l = (badN (some ⟨e, 0, none⟩, 1) (some ⟨e9, 0, none⟩, 9) (some ⟨e64, 0, none⟩, 1) (some ⟨e10, 0, none⟩, 1)) := ⟨_, rfl⟩
  have hlen : bl.length = 13 := by rw [hbl]; rfl
  have hcost : ∀ n ∈ bl, smallM (freshM [n] no0 [] no0 [] no0 [] no0) := fun n hn => by
    rw [hbl] at hn
    simp only [badN, List.mem_cons, List.not_mem_nil, or_false] at hn
    rcases hn with rfl | rfl | rfl | rfl | rfl | rfl | rfl | rfl | rfl | rfl | rfl | rfl | rfl <;> (refine ⟨?_, ?_, ?_, ?_⟩ <;> simp [costs, costN, costT, costS])
  rw [← hbl] at hno ⊢
  simp only [hlen]
  clear hbl
  repeat (first | (first | refine J_region ?_ | refine JL_nil ?_ | refine J_seq ?_ | refine J_block ?_) | (first | ((first | refine JL_step rfl ?_); first | refine JO_assign rfl rfl ?_)))
  refine J_loop (β := { i : Nat // i ≤ 13 }) (fun i => [(12, .slice (some ⟨rb, 0, none⟩) 13 13), (13, .int .i64 (i.1 : Int))]) (fun _ => []) (fun _ => [AllH NodR bl, Vw 6 (.slice (some ⟨rb, 0, none⟩) 13 13) 13 (bl.flatMap nodC), Gl te fz]) (fun i => 13 - i.1) ⟨0, by omega⟩ ?_ rfl Ent.sel ?_
  · (repeat (first | exact sub_nil _ | refine sub_cons rfl ?_))
  rintro ⟨i, hi⟩
  dsimp only
  by_cases hil : i < 13
  · obtain ⟨n, hn⟩ : ∃ n, bl[i]? = some n := ⟨_, List.getElem?_eq_getElem (by omega)⟩
    have hnm := List.mem_of_getElem? hn
    have hb := put11_bad (freshM [n] (some ⟨rb, 0 + i * 6, none⟩, 13 - i) [] no0 [] no0 [] no0) (hcost n hnm) (.inl (sec1_bad (hno n hnm) _))
    repeat (first | (first | refine J_region ?_ | refine JL_nil ?_ | refine J_seq ?_ | refine J_block ?_ | refine J_skip ?_ | refine J_condT rfl ?_) | (first | ((first | refine JL_step rfl ?_); first | refine JO_addN (b := 1) rfl rfl (by omega) rfl ?_ | refine JO_q (by simp) (JQ_piece i rfl rfl rfl (by omega)) rfl ?_ | refine JO_q (by simp) (JQ_lssT rfl rfl (by omega)) rfl ?_ | refine JO_move rfl rfl ?_ | refine JO_len rfl rfl ?_)))
    refine JL_step rfl (JO_build (cs := modC (freshM [n] (some ⟨rb, 0 + i * 6, none⟩, 13 - i) [] no0 [] no0 [] no0)) rfl rfl rfl ?_)
    refine JL_heap (((Ent.sel (K := [AllH NodR bl, Vw 6 (.slice (some ⟨rb, 0, none⟩) 13 13) 13 (bl.flatMap nodC), Gl te fz])).trans (all_add NodR bl n pers_nodR hnm)).trans ((Ent.sel (K := [Vw 6 (.slice (some ⟨rb, 0, none⟩) 13 13) 13 (bl.flatMap nodC), NodR n, AllH NodR bl, Gl te fz])).trans (piece_in hlen hn))) ?_
    refine JL_heap (Ent.trans (Ent.sel (K := [Vw 6 (slc (some ⟨rb, 0 + i * 6, none⟩, 13 - i) 1) 1 ([n].flatMap nodC), NodR n, Vw 6 (.slice (some ⟨rb, 0, none⟩) 13 13) 13 (bl.flatMap nodC), AllH NodR bl, Gl te fz])) (oneN_in (v := (some ⟨rb, 0 + i * 6, none⟩, 13 - i)))) ?_
    repeat (first | (first | refine J_region ?_ | refine JL_nil ?_ | refine J_seq ?_ | refine J_skip ?_ | refine J_condF rfl ?_) | (first | ((first | refine JL_step rfl ?_); first | refine JO_q (by simp) (JQ_neI0 rfl rfl) rfl ?_ | refine JO_addN (b := 1) rfl rfl (by omega) rfl ?_ | refine JO_move rfl rfl ?_ | refine JO_assign rfl rfl ?_ | refine JO_extract rfl rfl rfl ?_ | refine JO_callVP rfl (hb) rfl ?_)))
    exact ⟨⟨i + 1, by omega⟩, by simp only; omega, by (repeat (first | exact sub_nil _ | refine sub_cons rfl ?_)), rfl, Ent.sel⟩
  obtain rfl : i = 13 := by omega
  repeat (first | (first | refine J_region ?_ | refine JL_nil ?_ | refine J_seq ?_ | refine J_condF rfl ?_ | refine J_exit ?_) | (first | ((first | refine JL_step rfl ?_); first | refine JO_q (by simp) (JQ_lssF rfl rfl (by omega)) rfl ?_ | refine JO_move rfl rfl ?_ | refine JO_len rfl rfl ?_)))
  refine JL_heap (Ent.sel (K := [Gl te fz])) ?_
  clear hno hcost hlen
  refine JL_step rfl (JO_build (cs := arC ⟨false, 0, 1⟩) rfl rfl rfl ?_)
  refine JL_step rfl (JO_build (cs := arC ⟨true, 1, 0⟩) rfl rfl rfl ?_)
  refine JL_step rfl (JO_build (cs := arC ⟨true, 0, 32⟩) rfl rfl rfl ?_)
  refine JL_step rfl (JO_build (cs := arC ⟨true, 0, -1⟩) rfl rfl rfl ?_)
  refine JL_step rfl (JO_rowV arC badA arC_len rfl rfl rfl (by decide) (by decide) rfl (fun rq => ?_))
  repeat (first | (first | refine J_region ?_ | refine JL_nil ?_ | refine J_seq ?_ | refine J_block ?_) | (first | ((first | refine JL_step rfl ?_); first | refine JO_assign rfl rfl ?_)))
  refine J_loop (β := { i : Nat // i ≤ 4 }) (fun i => [(16, .slice (some ⟨rq, 0, none⟩) 4 4), (17, .int .i64 (i.1 : Int))]) (fun _ => []) (fun _ => [Vw 3 (.slice (some ⟨rq, 0, none⟩) 4 4) 4 (badA.flatMap arC), Gl te fz]) (fun i => 4 - i.1) ⟨0, by omega⟩ ?_ rfl Ent.sel ?_
  · (repeat (first | exact sub_nil _ | refine sub_cons rfl ?_))
  rintro ⟨i, hi⟩
  dsimp only
  by_cases hil : i < 4
  · obtain ⟨n, hn⟩ : ∃ n, badA[i]? = some n := ⟨_, List.getElem?_eq_getElem (show i < 4 by omega)⟩
    have hnm := List.mem_of_getElem? hn
    have hok := badA_ok n hnm
    repeat (first | (first | refine J_region ?_ | refine JL_nil ?_ | refine J_seq ?_ | refine J_block ?_ | refine J_skip ?_ | refine J_condT rfl ?_) | (first | ((first | refine JL_step rfl ?_); first | refine JO_addN (b := 1) rfl rfl (by omega) rfl ?_ | refine JO_q (by simp) (JQ_piece i rfl rfl rfl (by omega)) rfl ?_ | refine JO_q (by simp) (JQ_lssT rfl rfl (by omega)) rfl ?_ | refine JO_move rfl rfl ?_ | refine JO_len rfl rfl ?_)))
    refine JL_step rfl (JO_build (cs := staC (⟨0, [n], (some ⟨rq, 0 + i * 3, none⟩, 4 - i)⟩ : Sta)) rfl rfl rfl ?_)
    refine JL_step rfl (JO_rowV staC [(⟨0, [n], (some ⟨rq, 0 + i * 3, none⟩, 4 - i)⟩ : Sta)] staC_len rfl rfl rfl (by decide) (by decide) rfl (fun rs => ?_))
    refine JL_step rfl (JO_build (cs := modC (freshM [] no0 [] no0 [] no0 [(⟨0, [n], (some ⟨rq, 0 + i * 3, none⟩, 4 - i)⟩ : Sta)] (some ⟨rs, 0, none⟩, 1))) rfl rfl rfl ?_)
    have hb := put11_bad (freshM [] no0 [] no0 [] no0 [(⟨0, [n], (some ⟨rq, 0 + i * 3, none⟩, 4 - i)⟩ : Sta)] (some ⟨rs, 0, none⟩, 1)) (small_arg n _ _) (.inr (.inr (sec3_bad (arg_bad (badA_no n hnm) _) _)))
    refine JL_heap ((Ent.sel (K := [Vw 3 (.slice (some ⟨rq, 0, none⟩) 4 4) 4 (badA.flatMap arC), Vw 2 (.slice (some ⟨rs, 0, none⟩) 1 1) 1 ([(⟨0, [n], (some ⟨rq, 0 + i * 3, none⟩, 4 - i)⟩ : Sta)].flatMap staC), Gl te fz])).trans (pieceA_in hn)) ?_
    refine JL_heap ((Ent.sel (K := [Vw 3 (slc (some ⟨rq, 0 + i * 3, none⟩, 4 - i) 1) 1 ([n].flatMap arC), Vw 2 (slc (some ⟨rs, 0, none⟩, 1) 1) 1 ([(⟨0, [n], (some ⟨rq, 0 + i * 3, none⟩, 4 - i)⟩ : Sta)].flatMap staC), Vw 3 (.slice (some ⟨rq, 0, none⟩) 4 4) 4 (badA.flatMap arC), Gl te fz])).trans (oneS_in (v := (some ⟨rs, 0, none⟩, 1)) hok)) ?_
    repeat (first | (first | refine J_region ?_ | refine JL_nil ?_ | refine J_seq ?_ | refine J_skip ?_ | refine J_condF rfl ?_) | (first | ((first | refine JL_step rfl ?_); first | refine JO_q (by simp) (JQ_neI0 rfl rfl) rfl ?_ | refine JO_addN (b := 1) rfl rfl (by omega) rfl ?_ | refine JO_move rfl rfl ?_ | refine JO_assign rfl rfl ?_ | refine JO_extract rfl rfl rfl ?_ | refine JO_callVP rfl (hb) rfl ?_)))
    exact ⟨⟨i + 1, by omega⟩, by simp only; omega, by (repeat (first | exact sub_nil _ | refine sub_cons rfl ?_)), rfl, Ent.sel⟩
  obtain rfl : i = 4 := by omega
  repeat (first | (first | refine J_region ?_ | refine JL_nil ?_ | refine J_seq ?_ | refine J_condF rfl ?_ | refine J_exit ?_) | (first | ((first | refine JL_step rfl ?_); first | refine JO_q (by simp) (JQ_lssF rfl rfl (by omega)) rfl ?_ | refine JO_move rfl rfl ?_ | refine JO_len rfl rfl ?_)))
  refine JL_heap (Ent.sel (K := [Gl te fz])) ?_
  refine JL_step rfl (JO_makeV (n := 65) nodC zeroN nodC_len (by decide) rfl rfl rfl (by decide) (by decide) rfl (fun rm => ?_))
  refine JL_step rfl (JO_build (cs := modC (freshM (List.replicate 65 zeroN) (some ⟨rm, 0, none⟩, 65) [] no0 [] no0 [] no0)) rfl rfl rfl ?_)
  have h65 := put11_bad (freshM (List.replicate 65 zeroN) (some ⟨rm, 0, none⟩, 65) [] no0 [] no0 [] no0) (small_nodes (by decide) _) (.inl (many_no _))
  refine JL_heap ((Ent.sel (K := [Vw 6 (.slice (some ⟨rm, 0, none⟩) 65 65) 65 ((List.replicate 65 zeroN).flatMap nodC), Gl te fz])).trans (nodes_in (n := 65) (a := (some ⟨rm, 0, none⟩, 65)))) ?_
  repeat (first | (first | refine JL_nil ?_ | refine J_seq ?_) | (first | ((first | refine JL_step rfl ?_); first | refine JO_move rfl rfl ?_ | refine JO_assign rfl rfl ?_ | refine JO_extract rfl rfl rfl ?_ | refine JO_callVP rfl (h65) rfl ?_)))
  refine J_cutX (α := Unit) (fun _ => [(21, .int .i64 2), (23, .int .i64 0)]) (fun _ => [Gl te fz]) ?_ ?_
  · repeat' (first | refine J_regionD ?_ | refine JA_end rfl ?_ | refine JA_step rfl ?_ | exact jal_nil | refine jal_no rfl ?_ | refine jal_yes rfl ?_ ?_ | (first | ((first | refine JA_op rfl rfl ?_); first | refine JO_move rfl rfl ?_ | refine JO_assign rfl rfl ?_ | refine JO_extract rfl rfl rfl ?_ | refine JO_makeV (n := 64) nodC zeroN nodC_len (by decide) rfl rfl rfl (by decide) (by decide) rfl (fun rn => ?_) | refine JO_makeV (n := 16) edgeC (0, 0) edgeC_len (by decide) rfl rfl rfl (by decide) (by decide) rfl (fun rc => ?_) | refine JO_makeV (n := 8) staC zeroS staC_len (by decide) rfl rfl rfl (by decide) (by decide) rfl (fun rs => ?_) | refine JO_build (cs := modC (freshM (List.replicate 64 zeroN) (some ⟨rn, 0, none⟩, 64) [] no0 (List.replicate 16 (0, 0)) (some ⟨rc, 0, none⟩, 16) (List.replicate 8 zeroS) (some ⟨rs, 0, none⟩, 8))) rfl rfl rfl ?_ | refine JO_callV' rfl (full_put rn rc rs) rfl ?_)))
    all_goals exact ⟨(), by (repeat (first | exact sub_nil _ | refine sub_cons rfl ?_)), rfl, Ent.sel⟩
  rintro ⟨⟩
  dsimp only [thn]
  repeat (first | (first | refine J_region ?_ | refine J_seq ?_) | (first | ((first | refine JL_step rfl ?_); first | refine JO_move rfl rfl ?_)))
  refine JL_step rfl (JO_build (cs := staC (⟨16, [], no0⟩ : Sta)) rfl rfl rfl ?_)
  refine JL_step rfl (JO_rowV staC [(⟨16, [], no0⟩ : Sta)] staC_len rfl rfl rfl (by decide) (by decide) rfl (fun rs => ?_))
  refine JL_step rfl (JO_build (cs := modC (freshM [] no0 [] no0 [] no0 [(⟨16, [], no0⟩ : Sta)] (some ⟨rs, 0, none⟩, 1))) rfl rfl rfl ?_)
  have h16 := put11_bad (freshM [] no0 [] no0 [] no0 [(⟨16, [], no0⟩ : Sta)] (some ⟨rs, 0, none⟩, 1)) (small_start _) (.inr (.inr (start_no _)))
  refine JL_heap ((Ent.sel (K := [Vw 2 (.slice (some ⟨rs, 0, none⟩) 1 1) 1 ([(⟨16, [], no0⟩ : Sta)].flatMap staC), Gl te fz])).trans (lateS_in (v := (some ⟨rs, 0, none⟩, 1)) rfl rfl)) ?_
  repeat (first | (first | refine J_region ?_ | refine JL_nil ?_ | refine J_seq ?_) | (first | ((first | refine JL_step rfl ?_); first | refine JO_move rfl rfl ?_ | refine JO_assign rfl rfl ?_ | refine JO_extract rfl rfl rfl ?_ | refine JO_callVP rfl (h16) rfl ?_)))
  refine JL_step rfl (JO_build (cs := edgeC (1, 0)) rfl rfl rfl ?_)
  refine JL_step rfl (JO_build (cs := prmC ⟨false, (1, 0)⟩) rfl rfl rfl ?_)
  refine JL_step rfl (JO_rowV prmC [(⟨false, (1, 0)⟩ : Prm)] prmC_len rfl rfl rfl (by decide) (by decide) rfl (fun rp => ?_))
  refine JL_step rfl (JO_build (cs := insnC (⟨0, 0, 0, 0, 0, []⟩, none, 0)) rfl rfl rfl ?_)
  refine JL_step rfl (JO_rowV insnC [((⟨0, 0, 0, 0, 0, []⟩, none, 0) : YI)] insC_len rfl rfl rfl (by decide) (by decide) rfl (fun rc => ?_))
  refine JL_step rfl (JO_build (cs := temC (parT (some ⟨rp, 0, none⟩, 1) (some ⟨rc, 0, none⟩, 1))) rfl rfl rfl ?_)
  refine JL_step rfl (JO_rowV temC [(parT (some ⟨rp, 0, none⟩, 1) (some ⟨rc, 0, none⟩, 1))] temC_len rfl rfl rfl (by decide) (by decide) rfl (fun rt => ?_))
  refine JL_step rfl (JO_build (cs := modC (freshM [] no0 [(parT (some ⟨rp, 0, none⟩, 1) (some ⟨rc, 0, none⟩, 1))] (some ⟨rt, 0, none⟩, 1) [] no0 [] no0)) rfl rfl rfl ?_)
  have hpt := put11_bad (freshM [] no0 [(parT (some ⟨rp, 0, none⟩, 1) (some ⟨rc, 0, none⟩, 1))] (some ⟨rt, 0, none⟩, 1) [] no0 [] no0) (small_par _ _ _) (.inr (.inl (sec2_bad (parT_no _ _) _)))
  refine JL_heap ((Ent.sel (K := [Vw 3 (.slice (some ⟨rp, 0, none⟩) 1 1) 1 ([(⟨false, (1, 0)⟩ : Prm)].flatMap prmC), Vw 6 (.slice (some ⟨rc, 0, none⟩) 1 1) 1 ([((⟨0, 0, 0, 0, 0, []⟩, none, 0) : YI)].flatMap insnC), Vw 3 (.slice (some ⟨rt, 0, none⟩) 1 1) 1 ([(parT (some ⟨rp, 0, none⟩, 1) (some ⟨rc, 0, none⟩, 1))].flatMap temC), Gl te fz])).trans (parT_in (u := (some ⟨rp, 0, none⟩, 1)) (v := (some ⟨rc, 0, none⟩, 1)) (t := (some ⟨rt, 0, none⟩, 1)))) ?_
  repeat (first | (first | refine J_region ?_ | refine JL_nil ?_ | refine J_seq ?_) | (first | ((first | refine JL_step rfl ?_); first | refine JO_move rfl rfl ?_ | refine JO_assign rfl rfl ?_ | refine JO_extract rfl rfl rfl ?_ | refine JO_callVP rfl (hpt) rfl ?_)))
  refine JL_step rfl (JO_build (cs := insnC (⟨25, 0, 0, 0, 0, []⟩, none, 0)) rfl rfl rfl ?_)
  refine JL_step rfl (JO_rowV insnC [((⟨25, 0, 0, 0, 0, []⟩, none, 0) : YI)] insC_len rfl rfl rfl (by decide) (by decide) rfl (fun rd => ?_))
  refine JL_step rfl (JO_build (cs := temC (opT (some ⟨rd, 0, none⟩, 1))) rfl rfl rfl ?_)
  refine JL_step rfl (JO_rowV temC [(opT (some ⟨rd, 0, none⟩, 1))] temC_len rfl rfl rfl (by decide) (by decide) rfl (fun ru => ?_))
  refine JL_step rfl (JO_build (cs := modC (freshM [] no0 [(opT (some ⟨rd, 0, none⟩, 1))] (some ⟨ru, 0, none⟩, 1) [] no0 [] no0)) rfl rfl rfl ?_)
  have hot := put11_bad (freshM [] no0 [(opT (some ⟨rd, 0, none⟩, 1))] (some ⟨ru, 0, none⟩, 1) [] no0 [] no0) (small_op _ _) (.inr (.inl (sec2_bad (opT_no _) _)))
  refine JL_heap ((Ent.sel (K := [Vw 6 (.slice (some ⟨rd, 0, none⟩) 1 1) 1 ([((⟨25, 0, 0, 0, 0, []⟩, none, 0) : YI)].flatMap insnC), Vw 3 (.slice (some ⟨ru, 0, none⟩) 1 1) 1 ([(opT (some ⟨rd, 0, none⟩, 1))].flatMap temC), Gl te fz])).trans (opT_in (v := (some ⟨rd, 0, none⟩, 1)) (t := (some ⟨ru, 0, none⟩, 1)))) ?_
  repeat (first | (first | refine J_region ?_ | refine JL_nil ?_ | refine J_seq ?_ | refine J_ret ?_) | (first | ((first | refine JL_step rfl ?_ | refine JL_take rfl rfl ?_); first | refine JO_move rfl rfl ?_ | refine JO_assign rfl rfl ?_ | refine JO_pickT rfl rfl rfl ?_ | refine JO_eqI rfl rfl rfl ?_ | refine JO_extract rfl rfl rfl ?_ | refine JO_callVP rfl (hot) rfl ?_ | refine JO_callVP rfl (hw) rfl ?_ | refine JO_callVP rfl (f1) rfl ?_ | refine JO_callVP rfl (f2) rfl ?_ | refine JO_callVP rfl (f3) rfl ?_ | refine JO_callVP rfl (f4) rfl ?_ | refine JO_callVP rfl (f5) rfl ?_)))
  exact ret_oneV rfl rfl .nil
end Go.Proofs.YtickblndgihoeaaGreatDoor
