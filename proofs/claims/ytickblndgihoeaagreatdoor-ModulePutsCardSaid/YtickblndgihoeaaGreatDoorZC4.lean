/- ModulePuts answers true for all modules: its tied card. The laid variable errors.errorType is as the card ties it. No other condition. -/
import Derived.Test.YtickblndgihoeaaGreatDoorM38
namespace Go.Proofs.YtickblndgihoeaaGreatDoor
open Go Go.Sp Go.ChangeShapes Go.WideShapes Go.ChangeAt Go.RowKit
set_option maxRecDepth 100000 in
theorem modulePuts_lifted (os : Os) (started : os.Started) (H : Type) (enc : TypeId × Value → H) :
    ReturnsInHanded {} Tryz.checked os 3 .any (fun w args => (Rows.modulePutsSpec.pre enc Tryz.prog Tryz.f3 [] false w args ∧ laidMetH Tryz.prog laid_ w) ∧ sizedMet enc Tryz.prog Tryz.f3 (OpenSpec.ofChange Rows.modulePutsSpec) false w args)
      (Rows.modulePutsSpec.post enc Tryz.prog Tryz.f3 false true false false) := by
  refine returnsInHanded_of_change_and (C := Tryz.checked) (X := fun w _ => laidMetH Tryz.prog laid_ w) (fun _ _ _ hh h => h.of_heap hh) own_ started (by kernel_rfl) Tryz.func3
    (ChangeSpec.witness_at (enc := enc) (C := Tryz.checked) (os := os) (X := fun w _ => laidMetH Tryz.prog laid_ w) false (laidWorld os) #[.agg #[.slice none 0 0,.slice none 0 0,.slice none 0 0,.slice none 0 0,.slice none 0 0,.slice none 0 0,.slice none 0 0,.slice none 0 0]] 8 rfl (by kernel_rfl) (by kernel_rfl) (by kernel_rfl) (by kernel_rfl) (by kernel_rfl) (laidWorld_met os _)) ?_
  intro W base args ds gs before hval0 hW _ hsz0 hL _
  have hval : ∀ (j : Nat) t v,Tryz.f3.params[j]? = some t → args[j]? = some v → Value.okWide Tryz.prog W .any base t v := hval0
  have hsz : (DataW.weightsEach Tryz.prog (Tryz.f3.params.toList ++ Rows.modulePutsSpec.plain.varTypes Tryz.prog) (ds ++ gs)).all (· ≤ reachBytes) = true := hsz0
  have hW' := hW
  obtain ⟨p,q,hA0,hV,rfl,hfz,hnd⟩ := hW
  have hA : DataW.TrodAll enc Tryz.prog W 0 (fun _ => true) true Tryz.f3.params.toList args.toList ds p := hA0
  rw [Tryz.params3] at hA hval
  obtain ⟨v0,vs0,d0,ds0,p0,q0,hargs,rfl,rfl,h0,r0⟩ := trodAll_cons hA
  obtain ⟨rfl,rfl,rfl⟩ := trodAll_nil r0
  obtain rfl : args = #[v0] := by apply Array.ext';simpa using hargs
  obtain ⟨rfl,rfl⟩ := trodVars_none hV
  obtain ⟨te,fz,hg⟩ := gl_of_laid hL
  obtain ⟨m0,rfl,hm0,hr0⟩ := read_module (hval 0 28 v0 rfl rfl) h0
  refine (row_of_ct (modulePuts_c m0 hm0 te fz) (fun A hA k hk => by
    simp only [List.mem_cons,List.not_mem_nil,or_false] at hA
    rcases hA with rfl | rfl
    · exact hr0 k hk
    · exact hg k hk)).mono fun e W' ⟨he,hb⟩ => ?_
  exact ⟨_,he,post_true laidOut_ (by rw [Tryz.params3];decide +kernel) hW' hb rfl rfl rfl Tryz.underlying4⟩
theorem modulePuts_said : Rows.ModulePutsSaid :=
  OpenClaim.holds_of_wide 3 Tryz.f3 rfl rfl rfl rfl rfl rfl rfl ⟨rfl,rfl,rfl,rfl,rfl⟩ rfl rfl rfl rfl rfl (by kernel_rfl) Tryz.func3 (by kernel_rfl)
    (of_decide_eq_true (by kernel_rfl)) (by unfold Func.isWrapper;rw [if_neg (of_decide_eq_false (by kernel_rfl))];exact ⟨rfl,rfl⟩)
    (fun os started H enc _ => modulePuts_lifted os started H enc)
theorem modulePuts_card : Rows.ModulePutsCardSaid :=
  Claim7.holds_tied_plain_at .later [] [.handle] true _ true
    modulePuts_said (fun _ h => by cases h) (by kernel_rfl) (fun _ h => by cases h) modulePuts_row_tie rfl ⟨rfl,rfl⟩ (by kernel_rfl) rfl
    (fun f fn hf hfn => by
      obtain rfl : f = 3 := Option.some.inj ((show Tryz.prog.funcNamed "colloquy/colloquylaw11.ModulePuts" = some 3 by kernel_rfl).symm.trans hf) |>.symm
      obtain rfl : fn = Tryz.f3 := (Option.some.inj (Tryz.func3.symm.trans hfn)).symm
      exact ⟨by kernel_rfl,fun j t ht => by
        have hall : ∀ t ∈ Tryz.f3.params.toList,Tryz.prog.wantsStandIn t = false := by rw [Tryz.params3];decide +kernel
        exact hall t (by rw [Array.mem_toList_iff];exact Array.mem_of_getElem? ht)⟩)
    (by kernel_rfl)
#print axioms modulePuts_card
end Go.Proofs.YtickblndgihoeaaGreatDoor
