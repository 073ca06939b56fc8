/- LebReads answers true for every text and every row of questions: its tied card. The laid variable errors.errorType is as the card ties it. No other condition. -/
import Derived.Test.YtejhdhmopiahhaaDoorM6
import Derived.Test.YtejhdhmopiahhaaDoorM10
namespace Go.Proofs.YtejhdhmopiahhaaDoor
open Go Go.Sp Go.ChangeShapes Go.WideShapes Go.ChangeAt Go.RowKit
set_option maxRecDepth 100000 in
theorem lebReads_lifted (os : Os) (started : os.Started) (H : Type) (enc : TypeId × Value → H) :
    ReturnsInHanded {} Tryd.checked os 7 .any (fun w args => (Rows.lebReadsSpec.pre enc Tryd.prog Tryd.f7 [] false w args ∧ laidMetH Tryd.prog laid_ w) ∧ sizedMet enc Tryd.prog Tryd.f7 (OpenSpec.ofChange Rows.lebReadsSpec) false w args)
      (Rows.lebReadsSpec.post enc Tryd.prog Tryd.f7 false true false false) := by
  refine returnsInHanded_of_change_and (C := Tryd.checked) (X := fun w _ => laidMetH Tryd.prog laid_ w) (fun _ _ _ hh h => h.of_heap hh) own_ started (by kernel_rfl) Tryd.func7
    (ChangeSpec.witness_at (enc := enc) (C := Tryd.checked) (os := os) (X := fun w _ => laidMetH Tryd.prog laid_ w) false (laidWorld os) #[.string ⟨#[]⟩, .slice none 0 0] 8 rfl (by kernel_rfl) (by kernel_rfl) (by kernel_rfl) (by kernel_rfl) (by kernel_rfl) (laidWorld_met os _)) ?_
  intro W base args ds gs before hval0 hW _ hsz0 hL _
  have hval : ∀ (j : Nat) t v, Tryd.f7.params[j]? = some t → args[j]? = some v → Value.okWide Tryd.prog W .any base t v := hval0
  have hsz : (DataW.weightsEach Tryd.prog (Tryd.f7.params.toList ++ Rows.lebReadsSpec.plain.varTypes Tryd.prog) (ds ++ gs)).all (· ≤ reachBytes) = true := hsz0
  have hW' := hW
  obtain ⟨p, q, hA0, hV, rfl, hfz, hnd⟩ := hW
  have hA : DataW.TrodAll enc Tryd.prog W 0 (fun _ => true) true Tryd.f7.params.toList args.toList ds p := hA0
  rw [Tryd.params7] at hA hval
  obtain ⟨v0, vs0, d0, ds0, p0, q0, hargs, rfl, rfl, h0, r0⟩ := trodAll_cons hA
  obtain ⟨v1, vs1, d1, ds1, p1, q1, rfl, rfl, rfl, h1, r1⟩ := trodAll_cons r0
  obtain ⟨rfl, rfl, rfl⟩ := trodAll_nil r1
  obtain rfl : args = #[v0, v1] := by apply Array.ext'; simpa using hargs
  obtain ⟨rfl, rfl⟩ := trodVars_none hV
  obtain ⟨te, fz, hg⟩ := gl_of_laid hL
  obtain ⟨bs, rfl, hbs⟩ := read_str Tryd.underlying9 (hval 0 9 v0 rfl rfl) h0
  obtain ⟨ad, cap, l, rfl, _, _, hl, hvw⟩ := read_rowV (fun c : Nat × Int => [.int .u8 (c.1 : Int), .int .i64 c.2]) (fun c => c.2 ≤ 9223372036854775807) Tryd.underlying62 ce64 (by decide) (fun m c y _ h => cell_ask h) (hval 1 62 v1 rfl rfl) h1
  refine (row_of_ct (lebReads_c bs ad cap l hbs hl te fz) (fun A hA k hk => by
    simp only [List.mem_cons, List.not_mem_nil, or_false] at hA
    rcases hA with rfl | rfl
    · exact hvw k hk
    · exact hg k hk)).mono fun e W' ⟨he, hb⟩ => ?_
  exact ⟨_, he, post_true laidOut_ (by rw [Tryd.params7]; decide +kernel) hW' hb rfl rfl rfl Tryd.underlying4⟩
theorem lebReads_said : Rows.LebReadsSaid :=
  OpenClaim.holds_of_wide 7 Tryd.f7 rfl rfl rfl rfl rfl rfl rfl ⟨rfl, rfl, rfl, rfl, rfl⟩ rfl rfl rfl rfl rfl (by kernel_rfl) Tryd.func7 (by kernel_rfl)
    (of_decide_eq_true (by kernel_rfl)) (by unfold Func.isWrapper; rw [if_neg (of_decide_eq_false (by kernel_rfl))]; exact ⟨rfl, rfl⟩)
    (fun os started H enc _ => lebReads_lifted os started H enc)
theorem lebReads_card : Rows.LebReadsCardSaid :=
  Claim7.holds_tied_plain_at .later [] [.handle] true _ true
    lebReads_said (fun _ h => by cases h) (by kernel_rfl) (fun _ h => by cases h) lebReads_row_tie rfl ⟨rfl, rfl⟩ (by kernel_rfl) rfl
    (fun f fn hf hfn => by
      obtain rfl : f = 7 := Option.some.inj ((show Tryd.prog.funcNamed "colloquy/colloquylaw02.LebReads" = some 7 by kernel_rfl).symm.trans hf) |>.symm
      obtain rfl : fn = Tryd.f7 := (Option.some.inj (Tryd.func7.symm.trans hfn)).symm
      exact ⟨by kernel_rfl, fun j t ht => by
        have hall : ∀ t ∈ Tryd.f7.params.toList, Tryd.prog.wantsStandIn t = false := by rw [Tryd.params7]; decide +kernel
        exact hall t (by rw [Array.mem_toList_iff]; exact Array.mem_of_getElem? ht)⟩)
    (by kernel_rfl)
#print axioms lebReads_card
end Go.Proofs.YtejhdhmopiahhaaDoor
