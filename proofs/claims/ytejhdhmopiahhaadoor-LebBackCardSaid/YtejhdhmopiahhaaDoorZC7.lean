/- LebBack answers true for every row of numbers and every row of whole numbers: its tied card. The laid variable errors.errorType is as the card ties it. No other condition. -/
import Derived.Test.YtejhdhmopiahhaaDoorM6
import Derived.Test.YtejhdhmopiahhaaDoorM8
namespace Go.Proofs.YtejhdhmopiahhaaDoor
open Go Go.Sp Go.ChangeShapes Go.WideShapes Go.ChangeAt Go.RowKit
set_option maxRecDepth 100000 in
theorem lebBack_lifted (os : Os) (started : os.Started) (H : Type) (enc : TypeId × Value → H) :
    ReturnsInHanded {} Tryd.checked os 12 .any (fun w args => (Rows.lebBackSpec.pre enc Tryd.prog Tryd.f12 [] false w args ∧ laidMetH Tryd.prog laid_ w) ∧ sizedMet enc Tryd.prog Tryd.f12 (OpenSpec.ofChange Rows.lebBackSpec) false w args)
      (Rows.lebBackSpec.post enc Tryd.prog Tryd.f12 false true false false) := by
  refine returnsInHanded_of_change_and (C := Tryd.checked) (X := fun w _ => laidMetH Tryd.prog laid_ w) (fun _ _ _ hh h => h.of_heap hh) own_ started (by kernel_rfl) Tryd.func12
    (ChangeSpec.witness_at (enc := enc) (C := Tryd.checked) (os := os) (X := fun w _ => laidMetH Tryd.prog laid_ w) false (laidWorld os) #[.slice none 0 0, .slice none 0 0] 8 rfl (by kernel_rfl) (by kernel_rfl) (by kernel_rfl) (by kernel_rfl) (by kernel_rfl) (laidWorld_met os _)) ?_
  intro W base args ds gs before hval0 hW _ hsz0 hL _
  have hval : ∀ (j : Nat) t v, Tryd.f12.params[j]? = some t → args[j]? = some v → Value.okWide Tryd.prog W .any base t v := hval0
  have hsz : (DataW.weightsEach Tryd.prog (Tryd.f12.params.toList ++ Rows.lebBackSpec.plain.varTypes Tryd.prog) (ds ++ gs)).all (· ≤ reachBytes) = true := hsz0
  have hW' := hW
  obtain ⟨p, q, hA0, hV, rfl, hfz, hnd⟩ := hW
  have hA : DataW.TrodAll enc Tryd.prog W 0 (fun _ => true) true Tryd.f12.params.toList args.toList ds p := hA0
  rw [Tryd.params12] at hA hval
  obtain ⟨v0, vs0, d0, ds0, p0, q0, hargs, rfl, rfl, h0, r0⟩ := trodAll_cons hA
  obtain ⟨v1, vs1, d1, ds1, p1, q1, rfl, rfl, rfl, h1, r1⟩ := trodAll_cons r0
  obtain ⟨rfl, rfl, rfl⟩ := trodAll_nil r1
  obtain rfl : args = #[v0, v1] := by apply Array.ext'; simpa using hargs
  obtain ⟨rfl, rfl⟩ := trodVars_none hV
  obtain ⟨te, fz, hg⟩ := gl_of_laid hL
  obtain ⟨p1, c1, us, rfl, _, _, hu, hv1⟩ := read_rowV (fun n : Nat => [.int .u64 (n : Int)]) (fun n => n < 18446744073709551616) Tryd.underlying79 ce65 (by decide) (fun m c y _ h => cell_u64 h) (hval 0 79 v0 rfl rfl) h0
  obtain ⟨p2, c2, zs, rfl, _, _, hz, hv2⟩ := read_rowV (fun z : Int => [.int .i64 z]) (fun z => -9223372036854775808 ≤ z ∧ z ≤ 9223372036854775807) Tryd.underlying80 ce2 (by decide) (fun m c y _ h => cell_i64 h) (hval 1 80 v1 rfl rfl) h1
  rw [show (us.flatMap fun n : Nat => [Value.int .u64 (n : Int)]) = nat64 us from by simp only [nat64]; exact List.map_eq_flatMap.symm] at hv1
  rw [show (zs.flatMap fun z : Int => [Value.int .i64 z]) = ints zs from by simp only [ints]; exact List.map_eq_flatMap.symm] at hv2
  refine (row_of_ct (lebBack_c p1 p2 c1 c2 us zs hu hz te fz) (fun A hA k hk => by
    simp only [List.mem_cons, List.not_mem_nil, or_false] at hA
    rcases hA with rfl | rfl | rfl
    · exact hv1 k hk
    · exact hv2 k hk
    · exact hg k hk)).mono fun e W' ⟨he, hb⟩ => ?_
  exact ⟨_, he, post_true laidOut_ (by rw [Tryd.params12]; decide +kernel) hW' hb rfl rfl rfl Tryd.underlying4⟩
theorem lebBack_said : Rows.LebBackSaid :=
  OpenClaim.holds_of_wide 12 Tryd.f12 rfl rfl rfl rfl rfl rfl rfl ⟨rfl, rfl, rfl, rfl, rfl⟩ rfl rfl rfl rfl rfl (by kernel_rfl) Tryd.func12 (by kernel_rfl)
    (of_decide_eq_true (by kernel_rfl)) (by unfold Func.isWrapper; rw [if_neg (of_decide_eq_false (by kernel_rfl))]; exact ⟨rfl, rfl⟩)
    (fun os started H enc _ => lebBack_lifted os started H enc)
theorem lebBack_card : Rows.LebBackCardSaid :=
  Claim7.holds_tied_plain_at .later [] [.handle] true _ true
    lebBack_said (fun _ h => by cases h) (by kernel_rfl) (fun _ h => by cases h) lebBack_row_tie rfl ⟨rfl, rfl⟩ (by kernel_rfl) rfl
    (fun f fn hf hfn => by
      obtain rfl : f = 12 := Option.some.inj ((show Tryd.prog.funcNamed "colloquy/colloquylaw02.LebBack" = some 12 by kernel_rfl).symm.trans hf) |>.symm
      obtain rfl : fn = Tryd.f12 := (Option.some.inj (Tryd.func12.symm.trans hfn)).symm
      exact ⟨by kernel_rfl, fun j t ht => by
        have hall : ∀ t ∈ Tryd.f12.params.toList, Tryd.prog.wantsStandIn t = false := by rw [Tryd.params12]; decide +kernel
        exact hall t (by rw [Array.mem_toList_iff]; exact Array.mem_of_getElem? ht)⟩)
    (by kernel_rfl)
#print axioms lebBack_card
end Go.Proofs.YtejhdhmopiahhaaDoor
