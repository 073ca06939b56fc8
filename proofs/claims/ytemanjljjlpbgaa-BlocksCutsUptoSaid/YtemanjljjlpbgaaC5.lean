/- BlocksCuts answers true for every input whose reading is of bulk at most 1048576 (the second form, BlocksCutsUptoSaid): every code, all rows, and what is odd. -/
import Derived.Test.YtemanjljjlpbgaaC0
import Derived.Test.YtemanjljjlpbgaaU7
import Derived.JoinedCond
namespace Go.Proofs.Ytemanjljjlpbgaa
open Go Go.Sp Go.ChangeShapes Go.WideShapes Go.ChangeAt Go.RowKit
def weighL (xs : List Insn) : Nat := (xs.map fun x => x.l.length + 2).sum
theorem weighL_append (xs ys : List Insn) : weighL (xs ++ ys) = weighL xs + weighL ys := by simp [weighL]
theorem load_weigh (xs : List Insn) : ∀ (n : Nat) (se : List Bool), n ≤ xs.length → load xs n se ≤ weighL (xs.take n)
  | 0, _, _ => Nat.zero_le _
  | n + 1, se, h => by
    obtain ⟨x, hx⟩ : ∃ x, xs[n]? = some x := ⟨_, List.getElem?_eq_getElem (by omega)⟩
    have h1 := load_weigh xs n se (by omega)
    have h2 := goes_le xs n x hx
    rw [List.take_add_one, hx, weighL_append]
    have h3 : weighL (some x).toList = x.l.length + 2 := by simp [weighL]
    rw [h3]
    simp only [load]
    split <;> omega
theorem take_weigh (xs : List Insn) (m : Nat) : loadAll (xs.take m) ≤ weighL xs := by
  have h1 := load_weigh (xs.take m) (xs.take m).length (List.replicate (xs.take m).length false) (Nat.le_refl _)
  rw [List.take_length] at h1
  have h2 : weighL xs = weighL (xs.take m) + weighL (xs.drop m) := by rw [← weighL_append, List.take_append_drop]
  unfold loadAll
  omega
theorem bulk_pos {H : Type} (d : DataW H) : 1 ≤ Rows.uptoBulk d := by
  cases d with
  | lit l => cases l <;> simp [Rows.uptoBulk]
  | _ => simp [Rows.uptoBulk]
theorem bulk_len {H : Type} : ∀ l : List (DataW H), l.length ≤ Rows.uptoBulkAll l
  | [] => Nat.zero_le _
  | d :: r => by have := bulk_len r; have := bulk_pos d; simp only [Rows.uptoBulkAll, List.length_cons]; omega
/-- What a code's reading weighs. -/
theorem bulk_code {H : Type} {W : World} : ∀ (xs : List Insn) (Ds : List (DataW H)), Ds.length = xs.length → (∀ (i : Nat) (x : Insn) (D : DataW H), xs[i]? = some x → Ds[i]? = some D → ∃ lv, ReadI W D (x, lv)) → weighL xs ≤ Rows.uptoBulkAll Ds
  | [], _, _, _ => Nat.zero_le _
  | x :: xs, [], h, _ => by simp at h
  | x :: xs, D :: Ds, h, hr => by
    have h1 := bulk_code xs Ds (by simpa using h) (fun i y E hy hE => hr (i + 1) y E (by simpa using hy) (by simpa using hE))
    obtain ⟨lv, _, _, d0, d1, d2, d3, d4, dl, e, hl⟩ := hr 0 x D rfl rfl
    have h2 : x.l.length + 2 ≤ Rows.uptoBulk D := by
      rw [e]
      have p0 := bulk_pos d0
      have p1 := bulk_pos d1
      simp only [Rows.uptoBulk, Rows.uptoBulkAll]
      rcases hl with ⟨_, e2⟩ | ⟨es, sp, rfl, e2⟩
      · simp only at e2; rw [e2]; simp; omega
      · have := bulk_len es
        simp only [Rows.uptoBulk]
        simp only at e2
        omega
    have h3 : weighL (x :: xs) = (x.l.length + 2) + weighL xs := by simp [weighL]
    rw [h3]
    simp only [Rows.uptoBulkAll]
    omega
theorem mem_weigh {xs : List Insn} {x : Insn} (h : x ∈ xs) : x.l.length + 2 ≤ weighL xs := by
  induction xs with
  | nil => cases h
  | cons y xs ih =>
    have h3 : weighL (y :: xs) = (y.l.length + 2) + weighL xs := by simp [weighL]
    rcases List.mem_cons.1 h with rfl | h
    · omega
    · have := ih h; omega
set_option maxRecDepth 100000 in
theorem blocksCuts_lifted (os : Os) (started : os.Started) (H : Type) (enc : TypeId × Value → H) (F : Stop.Interp) :
    ReturnsInHanded {} Try.checked os 3 .any ((Rows.OpenSpec.upto Rows.blocksCutsSpec).pre6 enc Try.prog Try.f3 Rows.blocksCutsUptoRow.domain false) (((Rows.OpenSpec.upto Rows.blocksCutsSpec).at F).post enc Try.prog Try.f3 false true false false) := by
  refine returnsInHanded_of_cond (C := Try.checked) (s := Rows.OpenSpec.upto Rows.blocksCutsSpec) (k := Rows.uptoSmall) rfl own_ started (by kernel_rfl) Try.func3
    (OpenSpec.witness (enc := enc) (C := Try.checked) (s := Rows.OpenSpec.upto Rows.blocksCutsSpec) (k := Rows.uptoSmall) rfl false ⟨#[], #[.slice none 0 0, .slice none 0 0, .int .u8 0], []⟩ 8 (by kernel_rfl) (by kernel_rfl) (by kernel_rfl)
      (x := ([.nil, .nil, .lit (.int .u8 0)], [], [])) (by kernel_rfl) rfl (by kernel_rfl)) ?_
  intro W base args ds gs before hval0 hW hcnd hk _
  have hval : ∀ (j : Nat) t v, Try.f3.params[j]? = some t → args[j]? = some v → Value.okWide Try.prog W .any base t v := hval0
  have hW1 : DataW.Whole enc Try.prog Try.f3.params.toList Rows.blocksCutsSpec.vars false W args.toList ds gs before := hW
  have hW' := hW1
  obtain ⟨p, q, hA0, hV, rfl, hfz, hnd⟩ := hW1
  have hA : DataW.TrodAll enc Try.prog W 0 (fun _ => true) true Try.f3.params.toList args.toList ds p := hA0
  rw [Try.params3] at hA hval
  obtain ⟨v0, vs0, d0, ds0, p0, q0, hargs, rfl, rfl, h0, r0⟩ := trodAll_cons hA
  obtain ⟨v1, vs1, d1, ds1, p1, q1, rfl, rfl, rfl, h1, r1⟩ := trodAll_cons r0
  obtain ⟨v2, vs2, d2, ds2, p2, q2, rfl, rfl, rfl, h2, r2⟩ := trodAll_cons r1
  obtain ⟨rfl, rfl, rfl⟩ := trodAll_nil r2
  obtain rfl : args = #[v0, v1, v2] := by apply Array.ext'; simpa using hargs
  obtain ⟨rfl, rfl⟩ := trodVars_none hV
  obtain ⟨z2, rfl, w2⟩ := read_byte (hval 2 5 v2 rfl rfl) h2
  obtain ⟨ar, capr, rs, rfl, hr1, hr2, hr3⟩ := read_rows (hval 1 23 v1 rfl rfl) h1
  obtain ⟨ad, cap, xs, Ds, rfl, hc1, hc2, hc3, hc4, hc5⟩ := read_code (hval 0 22 v0 rfl rfl) h0
  have hbk := bulk_code xs Ds hc2 hc5
  have hbound : Rows.uptoBulkAll Ds ≤ 1048576 := by
    have hk2 : Rows.uptoBulkAll [d0, d1, d2] ≤ 1048576 := of_decide_eq_true hk
    simp only [Rows.uptoBulkAll] at hk2
    rcases hc4 with ⟨_, e⟩ | ⟨spare, rfl⟩
    · subst e; simp [Rows.uptoBulkAll]
    · simp only [Rows.uptoBulk] at hk2
      omega
  have hsm : Small xs := fun x hx => by have := mem_weigh hx; omega
  have hld := take_weigh xs (min xs.length 130)
  refine (row_of_ct (blocksCuts_c ad ar cap capr xs rs z2 hsm hc1 (by omega) hr2 w2 hr1) (fun A hA k hk => by
    simp only [List.mem_cons, List.not_mem_nil, or_false] at hA
    rcases hA with rfl | rfl
    · exact hc3 k hk
    · exact hr3 k hk)).mono fun e W' ⟨he, hb⟩ => ?_
  exact ⟨_, he, post_true (s := Rows.blocksCutsSpec) laidOut_ (by rw [Try.params3]; decide +kernel) hW' hb rfl rfl rfl Try.underlying4⟩
theorem blocksCuts_holds : Rows.BlocksCutsUptoSaid :=
  OpenClaim.holds_of_cond 3 Try.f3 rfl rfl rfl rfl rfl rfl rfl ⟨rfl, rfl, rfl, rfl, rfl⟩ rfl rfl rfl rfl rfl (by kernel_rfl) Try.func3 (by kernel_rfl)
    (of_decide_eq_true (by kernel_rfl)) (by unfold Func.isWrapper; first | (rw [if_pos (by decide +kernel)]; kernel_rfl) | (rw [if_neg (by decide +kernel)]; exact ⟨rfl, rfl⟩))
    (fun os started H enc _ F => blocksCuts_lifted os started H enc F)
end Go.Proofs.Ytemanjljjlpbgaa
