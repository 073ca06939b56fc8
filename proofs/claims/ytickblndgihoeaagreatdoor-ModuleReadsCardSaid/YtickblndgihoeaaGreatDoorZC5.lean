/- ModuleReads answers true for all bytes, modules and turns: its tied card. The laid variable errors.errorType is as the card ties it. No other condition. -/
import Derived.Test.YtickblndgihoeaaGreatDoorM38
import Derived.Test.YtickblndgihoeaaGreatDoorM50
namespace Go.Proofs.YtickblndgihoeaaGreatDoor
open Go Go.Sp Go.ChangeShapes Go.WideShapes Go.ChangeAt Go.RowKit
set_option maxRecDepth 100000 in
theorem moduleReads_lifted (os : Os) (started : os.Started) (H : Type) (enc : TypeId × Value → H) :
    ReturnsInHanded {} Tryz.checked os 4 .any (fun w args => (Rows.moduleReadsSpec.pre enc Tryz.prog Tryz.f4 [] false w args ∧ laidMetH Tryz.prog laid_ w) ∧ sizedMet enc Tryz.prog Tryz.f4 (OpenSpec.ofChange Rows.moduleReadsSpec) false w args)
      (Rows.moduleReadsSpec.post enc Tryz.prog Tryz.f4 false true false false) := by
  refine returnsInHanded_of_change_and (C := Tryz.checked) (X := fun w _ => laidMetH Tryz.prog laid_ w) (fun _ _ _ hh h => h.of_heap hh) own_ started (by kernel_rfl) Tryz.func4
    (ChangeSpec.witness_at (enc := enc) (C := Tryz.checked) (os := os) (X := fun w _ => laidMetH Tryz.prog laid_ w) false (laidWorld os) #[.string ⟨#[]⟩,.agg #[.slice none 0 0,.slice none 0 0,.slice none 0 0,.slice none 0 0,.slice none 0 0,.slice none 0 0,.slice none 0 0,.slice none 0 0],.agg #[.int .u16 0,.int .u8 0]] 8 rfl (by kernel_rfl) (by kernel_rfl) (by kernel_rfl) (by kernel_rfl) (by kernel_rfl) (laidWorld_met os _)) ?_
  intro W base args ds gs before hval0 hW _ hsz0 hL _
  have hval : ∀ (j : Nat) t v,Tryz.f4.params[j]? = some t → args[j]? = some v → Value.okWide Tryz.prog W .any base t v := hval0
  have hsz : (DataW.weightsEach Tryz.prog (Tryz.f4.params.toList ++ Rows.moduleReadsSpec.plain.varTypes Tryz.prog) (ds ++ gs)).all (· ≤ reachBytes) = true := hsz0
  have hW' := hW
  obtain ⟨p,q,hA0,hV,rfl,hfz,hnd⟩ := hW
  have hA : DataW.TrodAll enc Tryz.prog W 0 (fun _ => true) true Tryz.f4.params.toList args.toList ds p := hA0
  rw [Tryz.params4] at hA hval
  obtain ⟨v0,vs0,d0,ds0,p0,q0,hargs,rfl,rfl,h0,r0⟩ := trodAll_cons hA
  obtain ⟨v1,vs1,d1,ds1,p1,q1,rfl,rfl,rfl,h1,r1⟩ := trodAll_cons r0
  obtain ⟨v2,vs2,d2,ds2,p2,q2,rfl,rfl,rfl,h2,r2⟩ := trodAll_cons r1
  obtain ⟨rfl,rfl,rfl⟩ := trodAll_nil r2
  obtain rfl : args = #[v0,v1,v2] := by apply Array.ext';simpa using hargs
  obtain ⟨rfl,rfl⟩ := trodVars_none hV
  obtain ⟨te,fz,hg⟩ := gl_of_laid hL
  obtain ⟨s0,rfl,ls⟩ := read_str Tryz.underlying9 (hval 0 9 v0 rfl rfl) h0
  obtain ⟨m1,rfl,hm1,hr1⟩ := read_module (hval 1 28 v1 rfl rfl) h1
  obtain ⟨ta,tb,rfl,hta⟩ := read_turn11 (hval 2 37 v2 rfl rfl) h2
  refine (row_of_ct (moduleReads_c s0 ls m1 hm1 ta tb hta te fz) (fun A hA k hk => by
    simp only [List.mem_cons,List.not_mem_nil,or_false] at hA
    rcases hA with rfl | rfl
    · exact hr1 k hk
    · exact hg k hk)).mono fun e W' ⟨he,hb⟩ => ?_
  exact ⟨_,he,post_true laidOut_ (by rw [Tryz.params4];decide +kernel) hW' hb rfl rfl rfl Tryz.underlying4⟩
theorem moduleReads_said : Rows.ModuleReadsSaid :=
  OpenClaim.holds_of_wide 4 Tryz.f4 rfl rfl rfl rfl rfl rfl rfl ⟨rfl,rfl,rfl,rfl,rfl⟩ rfl rfl rfl rfl rfl (by kernel_rfl) Tryz.func4 (by kernel_rfl)
    (of_decide_eq_true (by kernel_rfl)) (by unfold Func.isWrapper;rw [if_neg (of_decide_eq_false (by kernel_rfl))];exact ⟨rfl,rfl⟩)
    (fun os started H enc _ => moduleReads_lifted os started H enc)
theorem moduleReads_card : Rows.ModuleReadsCardSaid :=
  Claim7.holds_tied_plain_at .later [] [.handle] true _ true
    moduleReads_said (fun _ h => by cases h) (by kernel_rfl) (fun _ h => by cases h) moduleReads_row_tie rfl ⟨rfl,rfl⟩ (by kernel_rfl) rfl
    (fun f fn hf hfn => by
      obtain rfl : f = 4 := Option.some.inj ((show Tryz.prog.funcNamed "colloquy/colloquylaw11.ModuleReads" = some 4 by kernel_rfl).symm.trans hf) |>.symm
      obtain rfl : fn = Tryz.f4 := (Option.some.inj (Tryz.func4.symm.trans hfn)).symm
      exact ⟨by kernel_rfl,fun j t ht => by
        have hall : ∀ t ∈ Tryz.f4.params.toList,Tryz.prog.wantsStandIn t = false := by rw [Tryz.params4];decide +kernel
        exact hall t (by rw [Array.mem_toList_iff];exact Array.mem_of_getElem? ht)⟩)
    (by kernel_rfl)
#print axioms moduleReads_card
end Go.Proofs.YtickblndgihoeaaGreatDoor
