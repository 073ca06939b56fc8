/- BlocksGoes answers true for every input: every code, op and place that the row's form lets in. No condition. -/
import Derived.Test.YtemanjljjlpbgaaC0
namespace Go.Proofs.Ytemanjljjlpbgaa
open Go Go.Sp Go.ChangeShapes Go.WideShapes Go.ChangeAt Go.RowKit
theorem weightsAll_mem {H : Type} {P : Program} {e : TypeId} : ∀ {l : List (DataW H)} {d : DataW H}, d ∈ l → ∀ n ∈ d.weights P e, n ∈ DataW.weightsAll P e l
  | [], _, h, _, _ => by cases h
  | d0 :: l, d, h, n, hn => by
    simp only [DataW.weightsAll, List.mem_append]
    rcases List.mem_cons.1 h with rfl | h
    · exact .inl hn
    · exact .inr (weightsAll_mem h n hn)
/-- What the form's own reach says of a code. -/
theorem code_sized {H : Type} {W : World} {ts : List TypeId} {ds : List (DataW H)} {j : Nat} {d : DataW H} {xs : List Insn} {Ds : List (DataW H)} (h : (DataW.weightsEach Try.prog ts ds).all (· ≤ reachBytes) = true) (ht : ts[j]? = some 22) (hd : ds[j]? = some d)
    (h1 : Ds.length = xs.length) (h2 : d = .nil ∧ Ds = [] ∨ ∃ spare, d = .slice Ds spare) (h3 : ∀ (i : Nat) (x : Insn) (D : DataW H), xs[i]? = some x → Ds[i]? = some D → ∃ lv, ReadI W D (x, lv)) :
    Small xs ∧ xs.length * 64 ≤ reachBytes := by
  have hr : reachBytes = 140737488351232 := rfl
  rcases h2 with ⟨_, e⟩ | ⟨spare, rfl⟩
  · subst e
    have : xs = [] := List.eq_nil_of_length_eq_zero h1.symm
    subst this
    exact ⟨fun x hx => absurd hx (List.not_mem_nil), by simp⟩
  · have hu : Try.prog.underlying 22 = some (.slice 40) := Try.underlying22
    have hall := List.all_eq_true.1 h
    refine ⟨fun x hx => ?_, ?_⟩
    · obtain ⟨i, hi, rfl⟩ := List.mem_iff_getElem.1 hx
      obtain ⟨lv, _, _, d0, d1, d2, d3, d4, dl, e, hl⟩ := h3 i xs[i] Ds[i] (List.getElem?_eq_getElem hi) (List.getElem?_eq_getElem (by omega))
      rcases hl with ⟨_, e2⟩ | ⟨es, sp, rfl, e2⟩
      · simp only at e2; rw [e2]; simp
      · have hm : (es.length + sp.length) * Try.prog.bytesOf 3 ∈ DataW.weightsEach Try.prog ts ds := by
          refine DataW.weights_mem_each ht hd _ ?_
          simp only [DataW.weights, hu, List.mem_cons, List.mem_append]
          right; left
          refine weightsAll_mem (List.getElem_mem (show i < Ds.length by omega)) _ ?_
          rw [e]
          simp only [DataW.weights, Try.underlying40, List.map, Array.toList]
          simp [DataW.weightsEach, DataW.weights, Try.underlying24]
        have hb : Try.prog.bytesOf 3 = 8 := by kernel_rfl
        have := hall _ hm
        rw [hb] at this
        simp only [decide_eq_true_eq] at this
        simp only at e2
        omega
    · have hm : (Ds.length + spare.length) * Try.prog.bytesOf 40 ∈ DataW.weightsEach Try.prog ts ds := DataW.weights_mem_each ht hd _ (by simp [DataW.weights, hu])
      have hb : Try.prog.bytesOf 40 = 64 := by kernel_rfl
      have := hall _ hm
      rw [hb] at this
      simp only [decide_eq_true_eq] at this
      have : xs.length * 64 ≤ (Ds.length + spare.length) * 64 := Nat.mul_le_mul_right _ (by omega)
      omega
set_option maxRecDepth 100000 in
theorem blocksGoes_lifted (os : Os) (started : os.Started) (H : Type) (enc : TypeId × Value → H) :
    ReturnsInHanded {} Try.checked os 4 .any (Rows.blocksGoesSpec.pre6 enc Try.prog Try.f4 Rows.blocksGoesRow.domain false) (Rows.blocksGoesSpec.post enc Try.prog Try.f4 false true false false) := by
  refine returnsInHanded_of_change_sized (C := Try.checked) own_ started (by kernel_rfl) Try.func4
    (ChangeSpec.witness6 (enc := enc) (C := Try.checked) false ⟨#[], #[.slice none 0 0, .int .i64 0, .int .i64 0], []⟩ 8 (by kernel_rfl) (by kernel_rfl) (by kernel_rfl) (by kernel_rfl)) ?_
  intro W base args ds gs before hval0 hW hcnd hsz0 _
  have hval : ∀ (j : Nat) t v, Try.f4.params[j]? = some t → args[j]? = some v → Value.okWide Try.prog W .any base t v := hval0
  have hsz : (DataW.weightsEach Try.prog (Try.f4.params.toList ++ Rows.blocksGoesSpec.plain.varTypes Try.prog) (ds ++ gs)).all (· ≤ reachBytes) = true := hsz0
  have hW' := hW
  obtain ⟨p, q, hA0, hV, rfl, hfz, hnd⟩ := hW
  have hA : DataW.TrodAll enc Try.prog W 0 (fun _ => true) true Try.f4.params.toList args.toList ds p := hA0
  rw [Try.params4] at hA hval
  obtain ⟨v0, vs0, d0, ds0, p0, q0, hargs, rfl, rfl, h0, r0⟩ := trodAll_cons hA
  obtain ⟨v1, vs1, d1, ds1, p1, q1, rfl, rfl, rfl, h1, r1⟩ := trodAll_cons r0
  obtain ⟨v2, vs2, d2, ds2, p2, q2, rfl, rfl, rfl, h2, r2⟩ := trodAll_cons r1
  obtain ⟨rfl, rfl, rfl⟩ := trodAll_nil r2
  obtain rfl : args = #[v0, v1, v2] := by apply Array.ext'; simpa using hargs
  obtain ⟨rfl, rfl⟩ := trodVars_none hV
  obtain ⟨z1, rfl, rfl, rfl, w1⟩ := open_int ul3 (hval 1 3 v1 rfl rfl) h1
  obtain ⟨z2, rfl, rfl, rfl, w2⟩ := open_int ul3 (hval 2 3 v2 rfl rfl) h2
  obtain ⟨ad, cap, xs, Ds, rfl, hc1, hc2, hc3, hc4, hc5⟩ := read_code (hval 0 22 v0 rfl rfl) h0
  obtain ⟨hs1, hs2⟩ := code_sized hsz (j := 0) (by rw [Try.params4]; rfl) rfl hc2 hc4 hc5
  have hr : reachBytes = 140737488351232 := rfl
  refine (row_of_ct (blocksGoes_c ad cap xs z1 z2 hs1 (by omega) hc1) (fun A hA k hk => by simp only [List.mem_singleton] at hA; subst hA; exact hc3 k hk)).mono fun e W' ⟨he, hb⟩ => ?_
  exact ⟨_, he, post_true laidOut_ (by rw [Try.params4]; decide +kernel) hW' hb rfl rfl rfl Try.underlying4⟩
theorem blocksGoes_holds : Rows.BlocksGoesSaid :=
  OpenClaim.holds_of_wide 4 Try.f4 rfl rfl rfl rfl rfl rfl rfl ⟨rfl, rfl, rfl, rfl, rfl⟩ rfl rfl rfl rfl rfl (by kernel_rfl) Try.func4 (by kernel_rfl)
    (of_decide_eq_true (by kernel_rfl)) (by unfold Func.isWrapper; first | (rw [if_pos (by decide +kernel)]; kernel_rfl) | (rw [if_neg (by decide +kernel)]; exact ⟨rfl, rfl⟩))
    (fun os started H enc _ => blocksGoes_lifted os started H enc)
end Go.Proofs.Ytemanjljjlpbgaa
