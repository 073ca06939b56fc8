/- Layer 10: the drawn region of BlocksKnown -/
import Derived.Test.YtemanjljjlpbgaaW6
import Derived.Test.YtemanjljjlpbgaaB11
namespace Go.Proofs.Ytemanjljjlpbgaa
open Go Go.Sp
def ropsC (n : Nat) : Code → Option (Array Oper)
  | .region id ops _ => if Nat.beq id n then some ops else none
  | .seq a b => match ropsC n a with | some o => some o | none => ropsC n b
  | .cond _ a b => match ropsC n a with | some o => some o | none => ropsC n b
  | .block _ b => ropsC n b
  | .loop b => ropsC n b
  | .scope b => ropsC n b
  | _ => none
noncomputable def tabOps : Array Oper := (Try.f8.body.bind (ropsC 10)).getD #[]
attribute [local irreducible] J JL JO Ct JG JQ cutF
set_option maxRecDepth 8000 in
set_option maxHeartbeats 32000000 in
theorem known_table {E0 : Env} {D : List Deferred} {Q : Post} (rl t1 t2 t3 : Nat) (e1 : Env.get E0 1 = some (.pointer (some ⟨t1, 0, none⟩))) (e2 : Env.get E0 2 = some (.pointer (some ⟨t2, 0, none⟩))) (e3 : Env.get E0 3 = some (.pointer (some ⟨t3, 0, none⟩))) (e9 : Env.get E0 9 = some (.slice (some ⟨rl, 0, none⟩) 129 129))
    (hfin : ∀ (E : Env) (L : List HP) (r : Nat) (T : List Entry), Env.get E 1 = some (.pointer (some ⟨t1, 0, none⟩)) → Env.get E 2 = some (.pointer (some ⟨t2, 0, none⟩)) → Env.get E 3 = some (.pointer (some ⟨t3, 0, none⟩)) → Env.get E 179 = some (.slice (some ⟨r, 0, none⟩) 16 16) → Env.get E 180 = some (.int .i64 16) → Env.get E 181 = some (.int .i64 0) → (∀ t ∈ T, Good t.xs t.at_ t.e) → T.length = 16 → Ent L [Vw 3 (.slice (some ⟨r, 0, none⟩) 16 16) 16 (T.flatMap entryCells), Codes T, pt t1 (.cells #[.int .i64 24, .int .i64 0, .int .i64 0, .int .i64 0, .int .i64 0, .slice none 0 0] 40 (0, 0)), pt t2 (.cells #[.int .i64 0, .int .i64 0, .int .i64 0, .int .i64 0, .int .i64 0, .slice none 0 0] 40 (0, 0)), pt t3 (.cells #[.int .i64 15, .int .i64 0, .int .i64 0, .int .i64 0, .int .i64 0, .slice none 0 0] 40 (0, 0))] → Q .normal E D L) :
    J Try.prog 232 none (.region 10 tabOps true) E0 D [VCode (.slice none (List.length ([] : List Insn)) 0) [], VCode (.slice (some ⟨rl, 0, none⟩) longI.length 129) longI, VCode (.slice (some ⟨rl, 6, none⟩) rearI.length 128) rearI, pt t1 (.cells #[.int .i64 24, .int .i64 0, .int .i64 0, .int .i64 0, .int .i64 0, .slice none 0 0] 40 (0, 0)), pt t2 (.cells #[.int .i64 0, .int .i64 0, .int .i64 0, .int .i64 0, .int .i64 0, .slice none 0 0] 40 (0, 0)), pt t3 (.cells #[.int .i64 15, .int .i64 0, .int .i64 0, .int .i64 0, .int .i64 0, .slice none 0 0] 40 (0, 0))] Q := by
  have l1 : ∀ (i : Nat) (u : Value), ([.int .i64 24, .int .i64 0, .int .i64 0, .int .i64 0, .int .i64 0, .slice none 0 0] : List Value)[i]? = some u → Lds [VCode (.slice none (List.length ([] : List Insn)) 0) [], VCode (.slice (some ⟨rl, 0, none⟩) longI.length 129) longI, VCode (.slice (some ⟨rl, 6, none⟩) rearI.length 128) rearI, pt t1 (.cells #[.int .i64 24, .int .i64 0, .int .i64 0, .int .i64 0, .int .i64 0, .slice none 0 0] 40 (0, 0)), pt t2 (.cells #[.int .i64 0, .int .i64 0, .int .i64 0, .int .i64 0, .int .i64 0, .slice none 0 0] 40 (0, 0)), pt t3 (.cells #[.int .i64 15, .int .i64 0, .int .i64 0, .int .i64 0, .int .i64 0, .slice none 0 0] 40 (0, 0))] ⟨t1, 0 + i, none⟩ u := fun i u hu => lds_block (by rw [Nat.zero_add]; exact hu)
  have l2 : ∀ (i : Nat) (u : Value), ([.int .i64 0, .int .i64 0, .int .i64 0, .int .i64 0, .int .i64 0, .slice none 0 0] : List Value)[i]? = some u → Lds [VCode (.slice none (List.length ([] : List Insn)) 0) [], VCode (.slice (some ⟨rl, 0, none⟩) longI.length 129) longI, VCode (.slice (some ⟨rl, 6, none⟩) rearI.length 128) rearI, pt t1 (.cells #[.int .i64 24, .int .i64 0, .int .i64 0, .int .i64 0, .int .i64 0, .slice none 0 0] 40 (0, 0)), pt t2 (.cells #[.int .i64 0, .int .i64 0, .int .i64 0, .int .i64 0, .int .i64 0, .slice none 0 0] 40 (0, 0)), pt t3 (.cells #[.int .i64 15, .int .i64 0, .int .i64 0, .int .i64 0, .int .i64 0, .slice none 0 0] 40 (0, 0))] ⟨t2, 0 + i, none⟩ u := fun i u hu => lds_block (by rw [Nat.zero_add]; exact hu)
  have l3 : ∀ (i : Nat) (u : Value), ([.int .i64 15, .int .i64 0, .int .i64 0, .int .i64 0, .int .i64 0, .slice none 0 0] : List Value)[i]? = some u → Lds [VCode (.slice none (List.length ([] : List Insn)) 0) [], VCode (.slice (some ⟨rl, 0, none⟩) longI.length 129) longI, VCode (.slice (some ⟨rl, 6, none⟩) rearI.length 128) rearI, pt t1 (.cells #[.int .i64 24, .int .i64 0, .int .i64 0, .int .i64 0, .int .i64 0, .slice none 0 0] 40 (0, 0)), pt t2 (.cells #[.int .i64 0, .int .i64 0, .int .i64 0, .int .i64 0, .int .i64 0, .slice none 0 0] 40 (0, 0)), pt t3 (.cells #[.int .i64 15, .int .i64 0, .int .i64 0, .int .i64 0, .int .i64 0, .slice none 0 0] 40 (0, 0))] ⟨t3, 0 + i, none⟩ u := fun i u hu => lds_block (by rw [Nat.zero_add]; exact hu)
  have pnil : HasP [VCode (.slice none (List.length ([] : List Insn)) 0) [], VCode (.slice (some ⟨rl, 0, none⟩) longI.length 129) longI, VCode (.slice (some ⟨rl, 6, none⟩) rearI.length 128) rearI, pt t1 (.cells #[.int .i64 24, .int .i64 0, .int .i64 0, .int .i64 0, .int .i64 0, .slice none 0 0] 40 (0, 0)), pt t2 (.cells #[.int .i64 0, .int .i64 0, .int .i64 0, .int .i64 0, .int .i64 0, .slice none 0 0] 40 (0, 0)), pt t3 (.cells #[.int .i64 15, .int .i64 0, .int .i64 0, .int .i64 0, .int .i64 0, .slice none 0 0] 40 (0, 0))] (VCode (.slice none (List.length ([] : List Insn)) 0) []) := Ent.dup (VCode (.slice none (List.length ([] : List Insn)) 0) [])
  have plong : HasP [VCode (.slice none (List.length ([] : List Insn)) 0) [], VCode (.slice (some ⟨rl, 0, none⟩) longI.length 129) longI, VCode (.slice (some ⟨rl, 6, none⟩) rearI.length 128) rearI, pt t1 (.cells #[.int .i64 24, .int .i64 0, .int .i64 0, .int .i64 0, .int .i64 0, .slice none 0 0] 40 (0, 0)), pt t2 (.cells #[.int .i64 0, .int .i64 0, .int .i64 0, .int .i64 0, .int .i64 0, .slice none 0 0] 40 (0, 0)), pt t3 (.cells #[.int .i64 15, .int .i64 0, .int .i64 0, .int .i64 0, .int .i64 0, .slice none 0 0] 40 (0, 0))] (VCode (.slice (some ⟨rl, 0, none⟩) longI.length 129) longI) := Ent.dup (VCode (.slice (some ⟨rl, 0, none⟩) longI.length 129) longI)
  have prear : HasP [VCode (.slice none (List.length ([] : List Insn)) 0) [], VCode (.slice (some ⟨rl, 0, none⟩) longI.length 129) longI, VCode (.slice (some ⟨rl, 6, none⟩) rearI.length 128) rearI, pt t1 (.cells #[.int .i64 24, .int .i64 0, .int .i64 0, .int .i64 0, .int .i64 0, .slice none 0 0] 40 (0, 0)), pt t2 (.cells #[.int .i64 0, .int .i64 0, .int .i64 0, .int .i64 0, .int .i64 0, .slice none 0 0] 40 (0, 0)), pt t3 (.cells #[.int .i64 15, .int .i64 0, .int .i64 0, .int .i64 0, .int .i64 0, .slice none 0 0] 40 (0, 0))] (VCode (.slice (some ⟨rl, 6, none⟩) rearI.length 128) rearI) := Ent.dup (VCode (.slice (some ⟨rl, 6, none⟩) rearI.length 128) rearI)
  refine J_regionDag [1, 2, 3, 9] (specOf (skl rl)) (by kernel_rfl) (specOf_mono _) (chain_use 69 rfl (by kernel_rfl) ?_) ?_
  · have es : tabOps.toList = tabOps.toList := rfl
    refine steps_cons (j := 1) (.entry [] (-1) 2) 113 rfl rfl rfl (fun E K0 hb hdep => ?_) ?_
    · exact JO_build (cs := [.slice none 0 0, .int .i64 (-1), .int .i64 2]) (pevs1 rfl (pevs1 rfl (pevs1 rfl rfl))) rfl rfl (after_mk (K := []) (Ent.refl _) ⟨none, 0, rfl, HasP.ext pnil K0⟩)
    refine steps_cons (j := 2) (.val (.slice (some ⟨rl, 0, none⟩) 129 129)) 114 rfl rfl rfl (fun E K0 hb hdep => ?_) ?_
    · exact JO_move ((hb 9 (by simp)).trans e9) rfl (after_mk (K := []) (Ent.refl _) rfl)
    refine steps_cons (j := 3) (.entry longI (-1) 2) 115 rfl rfl rfl (fun E K0 hb hdep => ?_) ?_
    · obtain ⟨v114, w114, rfl⟩ := hdep 1 (.val (.slice (some ⟨rl, 0, none⟩) 129 129)) rfl rfl
      exact JO_build (cs := [.slice (some ⟨rl, 0, none⟩) 129 129, .int .i64 (-1), .int .i64 2]) (pevs1 w114 (pevs1 rfl (pevs1 rfl rfl))) rfl rfl (after_mk (K := []) (Ent.refl _) ⟨(some ⟨rl, 0, none⟩), 129, by unfold entryCells; rw [long_len], HasP.ext plong K0⟩)
    refine steps_cons (j := 4) (.val (.slice (some ⟨rl, 0, none⟩) 129 129)) 116 rfl rfl rfl (fun E K0 hb hdep => ?_) ?_
    · exact JO_move ((hb 9 (by simp)).trans e9) rfl (after_mk (K := []) (Ent.refl _) rfl)
    refine steps_cons (j := 5) (.val (.slice (some ⟨rl, 6, none⟩) 128 128)) 117 rfl rfl rfl (fun E K0 hb hdep => ?_) ?_
    · obtain ⟨v116, w116, rfl⟩ := hdep 3 (.val (.slice (some ⟨rl, 0, none⟩) 129 129)) rfl rfl
      exact JO_from (j := 1) w116 rfl (by decide) (by decide) (by decide) rfl (after_mk (K := []) (Ent.refl _) (by rfl))
    refine steps_cons (j := 6) (.entry rearI (-1) 0) 118 rfl rfl rfl (fun E K0 hb hdep => ?_) ?_
    · obtain ⟨v117, w117, rfl⟩ := hdep 4 (.val (.slice (some ⟨rl, 6, none⟩) 128 128)) rfl rfl
      exact JO_build (cs := [.slice (some ⟨rl, 6, none⟩) 128 128, .int .i64 (-1), .int .i64 0]) (pevs1 w117 (pevs1 rfl (pevs1 rfl rfl))) rfl rfl (after_mk (K := []) (Ent.refl _) ⟨(some ⟨rl, 6, none⟩), 128, by unfold entryCells; rw [rear_len], HasP.ext prear K0⟩)
    refine steps_cons (j := 7) (.insn ⟨0, 0, 0, 0, 0, []⟩) 119 rfl rfl rfl (fun E K0 hb hdep => ?_) ?_
    · exact JO_loadAL [.int .i64 0, .int .i64 0, .int .i64 0, .int .i64 0, .int .i64 0, .slice none 0 0] ((hb 2 (by simp)).trans e2) (fun i u hu => lds_ext (l2 i u hu) K0) rfl rfl (after_mk (K := []) (Ent.refl _) ⟨_, rfl, .inl ⟨rfl, rfl⟩⟩)
    refine steps_cons (j := 8) (.code k3) 120 rfl rfl rfl (fun E K0 hb hdep => ?_) ?_
    · obtain ⟨v119, w119, i0, rfl, h0⟩ := hdep 6 (.insn ⟨0, 0, 0, 0, 0, []⟩) rfl rfl
      exact JO_buildSlice (vs := [.agg ([.int .i64 0, .int .i64 0, .int .i64 0, .int .i64 0, .int .i64 0, i0] : List Value).toArray]) rfl (evs1 w119 (rfl)) rfl (by decide) rfl fun r => after_mk (code_made (xs := k3) (lvs := [i0]) rfl (by simp [maxLen, k3]) (rows_v h0 (rows_nil))) ⟨some ⟨r, 0, none⟩, 1, rfl, HasP.head (pers_code _ _)⟩
    refine steps_cons (j := 9) (.entry k3 0 12) 121 rfl rfl rfl (fun E K0 hb hdep => ?_) ?_
    · obtain ⟨v120, w120, p, c, rfl, hp⟩ := hdep 7 (.code k3) rfl rfl
      exact JO_build (cs := [.slice p 1 c, .int .i64 0, .int .i64 12]) (pevs1 w120 (pevs1 rfl (pevs1 rfl rfl))) rfl rfl (after_mk (K := []) (Ent.refl _) ⟨p, c, rfl, hp⟩)
    refine steps_cons (j := 10) (.insn ⟨0, 0, 0, 0, 0, []⟩) 122 rfl rfl rfl (fun E K0 hb hdep => ?_) ?_
    · exact JO_loadAL [.int .i64 0, .int .i64 0, .int .i64 0, .int .i64 0, .int .i64 0, .slice none 0 0] ((hb 2 (by simp)).trans e2) (fun i u hu => lds_ext (l2 i u hu) K0) rfl rfl (after_mk (K := []) (Ent.refl _) ⟨_, rfl, .inl ⟨rfl, rfl⟩⟩)
    refine steps_cons (j := 11) (.row [0]) 123 rfl rfl rfl (fun E K0 hb hdep => ?_) ?_
    · exact JO_buildSlice (cs := [.int .i64 0]) rfl rfl rfl (by decide) rfl fun r => after_mk (row_made (l := [0]) (by simp [maxLen])) ⟨some ⟨r, 0, none⟩, 1, rfl, HasP.head (pers_vw _ _ _ _)⟩
    refine steps_cons (j := 12) (.insn ⟨11, 0, 0, 0, 0, [0]⟩) 124 rfl rfl rfl (fun E K0 hb hdep => ?_) ?_
    · obtain ⟨v123, w123, p, c, rfl, hp⟩ := hdep 10 (.row [0]) rfl rfl
      exact JO_build (cs := [.int .i64 11, .int .i64 0, .int .i64 0, .int .i64 0, .int .i64 0, .slice p 1 c]) (pevs1 rfl (pevs1 w123 rfl)) rfl rfl (after_mk (K := []) (Ent.refl _) ⟨_, rfl, .inr ⟨p, c, rfl, hp⟩⟩)
    refine steps_cons (j := 13) (.code k4) 125 rfl rfl rfl (fun E K0 hb hdep => ?_) ?_
    · obtain ⟨v122, w122, i0, rfl, h0⟩ := hdep 9 (.insn ⟨0, 0, 0, 0, 0, []⟩) rfl rfl
      obtain ⟨v124, w124, i1, rfl, h1⟩ := hdep 11 (.insn ⟨11, 0, 0, 0, 0, [0]⟩) rfl rfl
      exact JO_buildSlice (vs := [.agg ([.int .i64 0, .int .i64 0, .int .i64 0, .int .i64 0, .int .i64 0, i0] : List Value).toArray, .agg ([.int .i64 11, .int .i64 0, .int .i64 0, .int .i64 0, .int .i64 0, i1] : List Value).toArray]) rfl (evs1 w122 (evs1 w124 (rfl))) rfl (by decide) rfl fun r => after_mk (code_made (xs := k4) (lvs := [i0, i1]) rfl (by simp [maxLen, k4]) (rows_v h0 (rows_v h1 (rows_nil)))) ⟨some ⟨r, 0, none⟩, 2, rfl, HasP.head (pers_code _ _)⟩
    refine steps_cons (j := 14) (.entry k4 0 14) 126 rfl rfl rfl (fun E K0 hb hdep => ?_) ?_
    · obtain ⟨v125, w125, p, c, rfl, hp⟩ := hdep 12 (.code k4) rfl rfl
      exact JO_build (cs := [.slice p 2 c, .int .i64 0, .int .i64 14]) (pevs1 w125 (pevs1 rfl (pevs1 rfl rfl))) rfl rfl (after_mk (K := []) (Ent.refl _) ⟨p, c, rfl, hp⟩)
    refine steps_cons (j := 15) (.row [2]) 127 rfl rfl rfl (fun E K0 hb hdep => ?_) ?_
    · exact JO_buildSlice (cs := [.int .i64 2]) rfl rfl rfl (by decide) rfl fun r => after_mk (row_made (l := [2]) (by simp [maxLen])) ⟨some ⟨r, 0, none⟩, 1, rfl, HasP.head (pers_vw _ _ _ _)⟩
    refine steps_cons (j := 16) (.insn ⟨11, 0, 0, 0, 0, [2]⟩) 128 rfl rfl rfl (fun E K0 hb hdep => ?_) ?_
    · obtain ⟨v127, w127, p, c, rfl, hp⟩ := hdep 14 (.row [2]) rfl rfl
      exact JO_build (cs := [.int .i64 11, .int .i64 0, .int .i64 0, .int .i64 0, .int .i64 0, .slice p 1 c]) (pevs1 rfl (pevs1 w127 rfl)) rfl rfl (after_mk (K := []) (Ent.refl _) ⟨_, rfl, .inr ⟨p, c, rfl, hp⟩⟩)
    refine steps_cons (j := 17) (.insn ⟨0, 0, 0, 0, 0, []⟩) 129 rfl rfl rfl (fun E K0 hb hdep => ?_) ?_
    · exact JO_loadAL [.int .i64 0, .int .i64 0, .int .i64 0, .int .i64 0, .int .i64 0, .slice none 0 0] ((hb 2 (by simp)).trans e2) (fun i u hu => lds_ext (l2 i u hu) K0) rfl rfl (after_mk (K := []) (Ent.refl _) ⟨_, rfl, .inl ⟨rfl, rfl⟩⟩)
    refine steps_cons (j := 18) (.insn ⟨24, 0, 0, 0, 0, []⟩) 130 rfl rfl rfl (fun E K0 hb hdep => ?_) ?_
    · exact JO_loadAL [.int .i64 24, .int .i64 0, .int .i64 0, .int .i64 0, .int .i64 0, .slice none 0 0] ((hb 1 (by simp)).trans e1) (fun i u hu => lds_ext (l1 i u hu) K0) rfl rfl (after_mk (K := []) (Ent.refl _) ⟨_, rfl, .inl ⟨rfl, rfl⟩⟩)
    refine steps_cons (j := 19) (.code k5) 131 rfl rfl rfl (fun E K0 hb hdep => ?_) ?_
    · obtain ⟨v128, w128, i0, rfl, h0⟩ := hdep 15 (.insn ⟨11, 0, 0, 0, 0, [2]⟩) rfl rfl
      obtain ⟨v129, w129, i1, rfl, h1⟩ := hdep 16 (.insn ⟨0, 0, 0, 0, 0, []⟩) rfl rfl
      obtain ⟨v130, w130, i2, rfl, h2⟩ := hdep 17 (.insn ⟨24, 0, 0, 0, 0, []⟩) rfl rfl
      exact JO_buildSlice (vs := [.agg ([.int .i64 11, .int .i64 0, .int .i64 0, .int .i64 0, .int .i64 0, i0] : List Value).toArray, .agg ([.int .i64 0, .int .i64 0, .int .i64 0, .int .i64 0, .int .i64 0, i1] : List Value).toArray, .agg ([.int .i64 24, .int .i64 0, .int .i64 0, .int .i64 0, .int .i64 0, i2] : List Value).toArray]) rfl (evs1 w128 (evs1 w129 (evs1 w130 (rfl)))) rfl (by decide) rfl fun r => after_mk (code_made (xs := k5) (lvs := [i0, i1, i2]) rfl (by simp [maxLen, k5]) (rows_v h0 (rows_v h1 (rows_v h2 (rows_nil))))) ⟨some ⟨r, 0, none⟩, 3, rfl, HasP.head (pers_code _ _)⟩
    refine steps_cons (j := 20) (.entry k5 1 13) 132 rfl rfl rfl (fun E K0 hb hdep => ?_) ?_
    · obtain ⟨v131, w131, p, c, rfl, hp⟩ := hdep 18 (.code k5) rfl rfl
      exact JO_build (cs := [.slice p 3 c, .int .i64 1, .int .i64 13]) (pevs1 w131 (pevs1 rfl (pevs1 rfl rfl))) rfl rfl (after_mk (K := []) (Ent.refl _) ⟨p, c, rfl, hp⟩)
    refine steps_cons (j := 21) (.row [1, 1]) 133 rfl rfl rfl (fun E K0 hb hdep => ?_) ?_
    · exact JO_buildSlice (cs := [.int .i64 1, .int .i64 1]) rfl rfl rfl (by decide) rfl fun r => after_mk (row_made (l := [1, 1]) (by simp [maxLen])) ⟨some ⟨r, 0, none⟩, 2, rfl, HasP.head (pers_vw _ _ _ _)⟩
    refine steps_cons (j := 22) (.insn ⟨11, 0, 0, 0, 0, [1, 1]⟩) 134 rfl rfl rfl (fun E K0 hb hdep => ?_) ?_
    · obtain ⟨v133, w133, p, c, rfl, hp⟩ := hdep 20 (.row [1, 1]) rfl rfl
      exact JO_build (cs := [.int .i64 11, .int .i64 0, .int .i64 0, .int .i64 0, .int .i64 0, .slice p 2 c]) (pevs1 rfl (pevs1 w133 rfl)) rfl rfl (after_mk (K := []) (Ent.refl _) ⟨_, rfl, .inr ⟨p, c, rfl, hp⟩⟩)
    refine steps_cons (j := 23) (.insn ⟨24, 0, 0, 0, 0, []⟩) 135 rfl rfl rfl (fun E K0 hb hdep => ?_) ?_
    · exact JO_loadAL [.int .i64 24, .int .i64 0, .int .i64 0, .int .i64 0, .int .i64 0, .slice none 0 0] ((hb 1 (by simp)).trans e1) (fun i u hu => lds_ext (l1 i u hu) K0) rfl rfl (after_mk (K := []) (Ent.refl _) ⟨_, rfl, .inl ⟨rfl, rfl⟩⟩)
    refine steps_cons (j := 24) (.code k6) 136 rfl rfl rfl (fun E K0 hb hdep => ?_) ?_
    · obtain ⟨v134, w134, i0, rfl, h0⟩ := hdep 21 (.insn ⟨11, 0, 0, 0, 0, [1, 1]⟩) rfl rfl
      obtain ⟨v135, w135, i1, rfl, h1⟩ := hdep 22 (.insn ⟨24, 0, 0, 0, 0, []⟩) rfl rfl
      exact JO_buildSlice (vs := [.agg ([.int .i64 11, .int .i64 0, .int .i64 0, .int .i64 0, .int .i64 0, i0] : List Value).toArray, .agg ([.int .i64 24, .int .i64 0, .int .i64 0, .int .i64 0, .int .i64 0, i1] : List Value).toArray]) rfl (evs1 w134 (evs1 w135 (rfl))) rfl (by decide) rfl fun r => after_mk (code_made (xs := k6) (lvs := [i0, i1]) rfl (by simp [maxLen, k6]) (rows_v h0 (rows_v h1 (rows_nil)))) ⟨some ⟨r, 0, none⟩, 2, rfl, HasP.head (pers_code _ _)⟩
    refine steps_cons (j := 25) (.entry k6 0 12) 137 rfl rfl rfl (fun E K0 hb hdep => ?_) ?_
    · obtain ⟨v136, w136, p, c, rfl, hp⟩ := hdep 23 (.code k6) rfl rfl
      exact JO_build (cs := [.slice p 2 c, .int .i64 0, .int .i64 12]) (pevs1 w136 (pevs1 rfl (pevs1 rfl rfl))) rfl rfl (after_mk (K := []) (Ent.refl _) ⟨p, c, rfl, hp⟩)
    refine steps_cons (j := 26) (.insn ⟨11, 0, 0, 0, 0, []⟩) 138 rfl rfl rfl (fun E K0 hb hdep => ?_) ?_
    · exact JO_build (cs := [.int .i64 11, .int .i64 0, .int .i64 0, .int .i64 0, .int .i64 0, .slice none 0 0]) (pevs1 rfl rfl) rfl rfl (after_mk (K := []) (Ent.refl _) ⟨_, rfl, .inl ⟨rfl, rfl⟩⟩)
    refine steps_cons (j := 27) (.insn ⟨24, 0, 0, 0, 0, []⟩) 139 rfl rfl rfl (fun E K0 hb hdep => ?_) ?_
    · exact JO_loadAL [.int .i64 24, .int .i64 0, .int .i64 0, .int .i64 0, .int .i64 0, .slice none 0 0] ((hb 1 (by simp)).trans e1) (fun i u hu => lds_ext (l1 i u hu) K0) rfl rfl (after_mk (K := []) (Ent.refl _) ⟨_, rfl, .inl ⟨rfl, rfl⟩⟩)
    refine steps_cons (j := 28) (.code k7) 140 rfl rfl rfl (fun E K0 hb hdep => ?_) ?_
    · obtain ⟨v138, w138, i0, rfl, h0⟩ := hdep 25 (.insn ⟨11, 0, 0, 0, 0, []⟩) rfl rfl
      obtain ⟨v139, w139, i1, rfl, h1⟩ := hdep 26 (.insn ⟨24, 0, 0, 0, 0, []⟩) rfl rfl
      exact JO_buildSlice (vs := [.agg ([.int .i64 11, .int .i64 0, .int .i64 0, .int .i64 0, .int .i64 0, i0] : List Value).toArray, .agg ([.int .i64 24, .int .i64 0, .int .i64 0, .int .i64 0, .int .i64 0, i1] : List Value).toArray]) rfl (evs1 w138 (evs1 w139 (rfl))) rfl (by decide) rfl fun r => after_mk (code_made (xs := k7) (lvs := [i0, i1]) rfl (by simp [maxLen, k7]) (rows_v h0 (rows_v h1 (rows_nil)))) ⟨some ⟨r, 0, none⟩, 2, rfl, HasP.head (pers_code _ _)⟩
    refine steps_cons (j := 29) (.entry k7 0 12) 141 rfl rfl rfl (fun E K0 hb hdep => ?_) ?_
    · obtain ⟨v140, w140, p, c, rfl, hp⟩ := hdep 27 (.code k7) rfl rfl
      exact JO_build (cs := [.slice p 2 c, .int .i64 0, .int .i64 12]) (pevs1 w140 (pevs1 rfl (pevs1 rfl rfl))) rfl rfl (after_mk (K := []) (Ent.refl _) ⟨p, c, rfl, hp⟩)
    refine steps_cons (j := 30) (.insn ⟨19, 0, 0, 0, 0, []⟩) 142 rfl rfl rfl (fun E K0 hb hdep => ?_) ?_
    · exact JO_build (cs := [.int .i64 19, .int .i64 0, .int .i64 0, .int .i64 0, .int .i64 0, .slice none 0 0]) (pevs1 rfl rfl) rfl rfl (after_mk (K := []) (Ent.refl _) ⟨_, rfl, .inl ⟨rfl, rfl⟩⟩)
    refine steps_cons (j := 31) (.insn ⟨24, 0, 0, 0, 0, []⟩) 143 rfl rfl rfl (fun E K0 hb hdep => ?_) ?_
    · exact JO_loadAL [.int .i64 24, .int .i64 0, .int .i64 0, .int .i64 0, .int .i64 0, .slice none 0 0] ((hb 1 (by simp)).trans e1) (fun i u hu => lds_ext (l1 i u hu) K0) rfl rfl (after_mk (K := []) (Ent.refl _) ⟨_, rfl, .inl ⟨rfl, rfl⟩⟩)
    refine steps_cons (j := 32) (.code k8) 144 rfl rfl rfl (fun E K0 hb hdep => ?_) ?_
    · obtain ⟨v142, w142, i0, rfl, h0⟩ := hdep 29 (.insn ⟨19, 0, 0, 0, 0, []⟩) rfl rfl
      obtain ⟨v143, w143, i1, rfl, h1⟩ := hdep 30 (.insn ⟨24, 0, 0, 0, 0, []⟩) rfl rfl
      exact JO_buildSlice (vs := [.agg ([.int .i64 19, .int .i64 0, .int .i64 0, .int .i64 0, .int .i64 0, i0] : List Value).toArray, .agg ([.int .i64 24, .int .i64 0, .int .i64 0, .int .i64 0, .int .i64 0, i1] : List Value).toArray]) rfl (evs1 w142 (evs1 w143 (rfl))) rfl (by decide) rfl fun r => after_mk (code_made (xs := k8) (lvs := [i0, i1]) rfl (by simp [maxLen, k8]) (rows_v h0 (rows_v h1 (rows_nil)))) ⟨some ⟨r, 0, none⟩, 2, rfl, HasP.head (pers_code _ _)⟩
    refine steps_cons (j := 33) (.entry k8 0 12) 145 rfl rfl rfl (fun E K0 hb hdep => ?_) ?_
    · obtain ⟨v144, w144, p, c, rfl, hp⟩ := hdep 31 (.code k8) rfl rfl
      exact JO_build (cs := [.slice p 2 c, .int .i64 0, .int .i64 12]) (pevs1 w144 (pevs1 rfl (pevs1 rfl rfl))) rfl rfl (after_mk (K := []) (Ent.refl _) ⟨p, c, rfl, hp⟩)
    refine steps_cons (j := 34) (.insn ⟨0, 0, 0, 0, 0, []⟩) 146 rfl rfl rfl (fun E K0 hb hdep => ?_) ?_
    · exact JO_loadAL [.int .i64 0, .int .i64 0, .int .i64 0, .int .i64 0, .int .i64 0, .slice none 0 0] ((hb 2 (by simp)).trans e2) (fun i u hu => lds_ext (l2 i u hu) K0) rfl rfl (after_mk (K := []) (Ent.refl _) ⟨_, rfl, .inl ⟨rfl, rfl⟩⟩)
    refine steps_cons (j := 35) (.row [3]) 147 rfl rfl rfl (fun E K0 hb hdep => ?_) ?_
    · exact JO_buildSlice (cs := [.int .i64 3]) rfl rfl rfl (by decide) rfl fun r => after_mk (row_made (l := [3]) (by simp [maxLen])) ⟨some ⟨r, 0, none⟩, 1, rfl, HasP.head (pers_vw _ _ _ _)⟩
    refine steps_cons (j := 36) (.insn ⟨12, 0, 0, 0, 0, [3]⟩) 148 rfl rfl rfl (fun E K0 hb hdep => ?_) ?_
    · obtain ⟨v147, w147, p, c, rfl, hp⟩ := hdep 34 (.row [3]) rfl rfl
      exact JO_build (cs := [.int .i64 12, .int .i64 0, .int .i64 0, .int .i64 0, .int .i64 0, .slice p 1 c]) (pevs1 rfl (pevs1 w147 rfl)) rfl rfl (after_mk (K := []) (Ent.refl _) ⟨_, rfl, .inr ⟨p, c, rfl, hp⟩⟩)
    refine steps_cons (j := 37) (.insn ⟨24, 0, 0, 0, 0, []⟩) 149 rfl rfl rfl (fun E K0 hb hdep => ?_) ?_
    · exact JO_loadAL [.int .i64 24, .int .i64 0, .int .i64 0, .int .i64 0, .int .i64 0, .slice none 0 0] ((hb 1 (by simp)).trans e1) (fun i u hu => lds_ext (l1 i u hu) K0) rfl rfl (after_mk (K := []) (Ent.refl _) ⟨_, rfl, .inl ⟨rfl, rfl⟩⟩)
    refine steps_cons (j := 38) (.code k9) 150 rfl rfl rfl (fun E K0 hb hdep => ?_) ?_
    · obtain ⟨v146, w146, i0, rfl, h0⟩ := hdep 33 (.insn ⟨0, 0, 0, 0, 0, []⟩) rfl rfl
      obtain ⟨v148, w148, i1, rfl, h1⟩ := hdep 35 (.insn ⟨12, 0, 0, 0, 0, [3]⟩) rfl rfl
      obtain ⟨v149, w149, i2, rfl, h2⟩ := hdep 36 (.insn ⟨24, 0, 0, 0, 0, []⟩) rfl rfl
      exact JO_buildSlice (vs := [.agg ([.int .i64 0, .int .i64 0, .int .i64 0, .int .i64 0, .int .i64 0, i0] : List Value).toArray, .agg ([.int .i64 12, .int .i64 0, .int .i64 0, .int .i64 0, .int .i64 0, i1] : List Value).toArray, .agg ([.int .i64 24, .int .i64 0, .int .i64 0, .int .i64 0, .int .i64 0, i2] : List Value).toArray]) rfl (evs1 w146 (evs1 w148 (evs1 w149 (rfl)))) rfl (by decide) rfl fun r => after_mk (code_made (xs := k9) (lvs := [i0, i1, i2]) rfl (by simp [maxLen, k9]) (rows_v h0 (rows_v h1 (rows_v h2 (rows_nil))))) ⟨some ⟨r, 0, none⟩, 3, rfl, HasP.head (pers_code _ _)⟩
    refine steps_cons (j := 39) (.entry k9 1 12) 151 rfl rfl rfl (fun E K0 hb hdep => ?_) ?_
    · obtain ⟨v150, w150, p, c, rfl, hp⟩ := hdep 37 (.code k9) rfl rfl
      exact JO_build (cs := [.slice p 3 c, .int .i64 1, .int .i64 12]) (pevs1 w150 (pevs1 rfl (pevs1 rfl rfl))) rfl rfl (after_mk (K := []) (Ent.refl _) ⟨p, c, rfl, hp⟩)
    refine steps_cons (j := 40) (.insn ⟨0, 0, 0, 0, 0, []⟩) 152 rfl rfl rfl (fun E K0 hb hdep => ?_) ?_
    · exact JO_loadAL [.int .i64 0, .int .i64 0, .int .i64 0, .int .i64 0, .int .i64 0, .slice none 0 0] ((hb 2 (by simp)).trans e2) (fun i u hu => lds_ext (l2 i u hu) K0) rfl rfl (after_mk (K := []) (Ent.refl _) ⟨_, rfl, .inl ⟨rfl, rfl⟩⟩)
    refine steps_cons (j := 41) (.row [0]) 153 rfl rfl rfl (fun E K0 hb hdep => ?_) ?_
    · exact JO_buildSlice (cs := [.int .i64 0]) rfl rfl rfl (by decide) rfl fun r => after_mk (row_made (l := [0]) (by simp [maxLen])) ⟨some ⟨r, 0, none⟩, 1, rfl, HasP.head (pers_vw _ _ _ _)⟩
    refine steps_cons (j := 42) (.insn ⟨12, 0, 0, 0, 0, [0]⟩) 154 rfl rfl rfl (fun E K0 hb hdep => ?_) ?_
    · obtain ⟨v153, w153, p, c, rfl, hp⟩ := hdep 40 (.row [0]) rfl rfl
      exact JO_build (cs := [.int .i64 12, .int .i64 0, .int .i64 0, .int .i64 0, .int .i64 0, .slice p 1 c]) (pevs1 rfl (pevs1 w153 rfl)) rfl rfl (after_mk (K := []) (Ent.refl _) ⟨_, rfl, .inr ⟨p, c, rfl, hp⟩⟩)
    refine steps_cons (j := 43) (.code k10) 155 rfl rfl rfl (fun E K0 hb hdep => ?_) ?_
    · obtain ⟨v152, w152, i0, rfl, h0⟩ := hdep 39 (.insn ⟨0, 0, 0, 0, 0, []⟩) rfl rfl
      obtain ⟨v154, w154, i1, rfl, h1⟩ := hdep 41 (.insn ⟨12, 0, 0, 0, 0, [0]⟩) rfl rfl
      exact JO_buildSlice (vs := [.agg ([.int .i64 0, .int .i64 0, .int .i64 0, .int .i64 0, .int .i64 0, i0] : List Value).toArray, .agg ([.int .i64 12, .int .i64 0, .int .i64 0, .int .i64 0, .int .i64 0, i1] : List Value).toArray]) rfl (evs1 w152 (evs1 w154 (rfl))) rfl (by decide) rfl fun r => after_mk (code_made (xs := k10) (lvs := [i0, i1]) rfl (by simp [maxLen, k10]) (rows_v h0 (rows_v h1 (rows_nil)))) ⟨some ⟨r, 0, none⟩, 2, rfl, HasP.head (pers_code _ _)⟩
    refine steps_cons (j := 44) (.entry k10 1 12) 156 rfl rfl rfl (fun E K0 hb hdep => ?_) ?_
    · obtain ⟨v155, w155, p, c, rfl, hp⟩ := hdep 42 (.code k10) rfl rfl
      exact JO_build (cs := [.slice p 2 c, .int .i64 1, .int .i64 12]) (pevs1 w155 (pevs1 rfl (pevs1 rfl rfl))) rfl rfl (after_mk (K := []) (Ent.refl _) ⟨p, c, rfl, hp⟩)
    refine steps_cons (j := 45) (.insn ⟨24, 0, 0, 0, 0, []⟩) 157 rfl rfl rfl (fun E K0 hb hdep => ?_) ?_
    · exact JO_loadAL [.int .i64 24, .int .i64 0, .int .i64 0, .int .i64 0, .int .i64 0, .slice none 0 0] ((hb 1 (by simp)).trans e1) (fun i u hu => lds_ext (l1 i u hu) K0) rfl rfl (after_mk (K := []) (Ent.refl _) ⟨_, rfl, .inl ⟨rfl, rfl⟩⟩)
    refine steps_cons (j := 46) (.insn ⟨24, 0, 0, 0, 0, []⟩) 158 rfl rfl rfl (fun E K0 hb hdep => ?_) ?_
    · exact JO_loadAL [.int .i64 24, .int .i64 0, .int .i64 0, .int .i64 0, .int .i64 0, .slice none 0 0] ((hb 1 (by simp)).trans e1) (fun i u hu => lds_ext (l1 i u hu) K0) rfl rfl (after_mk (K := []) (Ent.refl _) ⟨_, rfl, .inl ⟨rfl, rfl⟩⟩)
    refine steps_cons (j := 47) (.code k11) 159 rfl rfl rfl (fun E K0 hb hdep => ?_) ?_
    · obtain ⟨v157, w157, i0, rfl, h0⟩ := hdep 44 (.insn ⟨24, 0, 0, 0, 0, []⟩) rfl rfl
      obtain ⟨v158, w158, i1, rfl, h1⟩ := hdep 45 (.insn ⟨24, 0, 0, 0, 0, []⟩) rfl rfl
      exact JO_buildSlice (vs := [.agg ([.int .i64 24, .int .i64 0, .int .i64 0, .int .i64 0, .int .i64 0, i0] : List Value).toArray, .agg ([.int .i64 24, .int .i64 0, .int .i64 0, .int .i64 0, .int .i64 0, i1] : List Value).toArray]) rfl (evs1 w157 (evs1 w158 (rfl))) rfl (by decide) rfl fun r => after_mk (code_made (xs := k11) (lvs := [i0, i1]) rfl (by simp [maxLen, k11]) (rows_v h0 (rows_v h1 (rows_nil)))) ⟨some ⟨r, 0, none⟩, 2, rfl, HasP.head (pers_code _ _)⟩
    refine steps_cons (j := 48) (.entry k11 1 13) 160 rfl rfl rfl (fun E K0 hb hdep => ?_) ?_
    · obtain ⟨v159, w159, p, c, rfl, hp⟩ := hdep 46 (.code k11) rfl rfl
      exact JO_build (cs := [.slice p 2 c, .int .i64 1, .int .i64 13]) (pevs1 w159 (pevs1 rfl (pevs1 rfl rfl))) rfl rfl (after_mk (K := []) (Ent.refl _) ⟨p, c, rfl, hp⟩)
    refine steps_cons (j := 49) (.insn ⟨15, 0, 0, 0, 0, []⟩) 161 rfl rfl rfl (fun E K0 hb hdep => ?_) ?_
    · exact JO_loadAL [.int .i64 15, .int .i64 0, .int .i64 0, .int .i64 0, .int .i64 0, .slice none 0 0] ((hb 3 (by simp)).trans e3) (fun i u hu => lds_ext (l3 i u hu) K0) rfl rfl (after_mk (K := []) (Ent.refl _) ⟨_, rfl, .inl ⟨rfl, rfl⟩⟩)
    refine steps_cons (j := 50) (.row [1]) 162 rfl rfl rfl (fun E K0 hb hdep => ?_) ?_
    · exact JO_buildSlice (cs := [.int .i64 1]) rfl rfl rfl (by decide) rfl fun r => after_mk (row_made (l := [1]) (by simp [maxLen])) ⟨some ⟨r, 0, none⟩, 1, rfl, HasP.head (pers_vw _ _ _ _)⟩
    refine steps_cons (j := 51) (.insn ⟨11, 0, 0, 0, 0, [1]⟩) 163 rfl rfl rfl (fun E K0 hb hdep => ?_) ?_
    · obtain ⟨v162, w162, p, c, rfl, hp⟩ := hdep 49 (.row [1]) rfl rfl
      exact JO_build (cs := [.int .i64 11, .int .i64 0, .int .i64 0, .int .i64 0, .int .i64 0, .slice p 1 c]) (pevs1 rfl (pevs1 w162 rfl)) rfl rfl (after_mk (K := []) (Ent.refl _) ⟨_, rfl, .inr ⟨p, c, rfl, hp⟩⟩)
    refine steps_cons (j := 52) (.code k12) 164 rfl rfl rfl (fun E K0 hb hdep => ?_) ?_
    · obtain ⟨v161, w161, i0, rfl, h0⟩ := hdep 48 (.insn ⟨15, 0, 0, 0, 0, []⟩) rfl rfl
      obtain ⟨v163, w163, i1, rfl, h1⟩ := hdep 50 (.insn ⟨11, 0, 0, 0, 0, [1]⟩) rfl rfl
      exact JO_buildSlice (vs := [.agg ([.int .i64 15, .int .i64 0, .int .i64 0, .int .i64 0, .int .i64 0, i0] : List Value).toArray, .agg ([.int .i64 11, .int .i64 0, .int .i64 0, .int .i64 0, .int .i64 0, i1] : List Value).toArray]) rfl (evs1 w161 (evs1 w163 (rfl))) rfl (by decide) rfl fun r => after_mk (code_made (xs := k12) (lvs := [i0, i1]) rfl (by simp [maxLen, k12]) (rows_v h0 (rows_v h1 (rows_nil)))) ⟨some ⟨r, 0, none⟩, 2, rfl, HasP.head (pers_code _ _)⟩
    refine steps_cons (j := 53) (.entry k12 1 14) 165 rfl rfl rfl (fun E K0 hb hdep => ?_) ?_
    · obtain ⟨v164, w164, p, c, rfl, hp⟩ := hdep 51 (.code k12) rfl rfl
      exact JO_build (cs := [.slice p 2 c, .int .i64 1, .int .i64 14]) (pevs1 w164 (pevs1 rfl (pevs1 rfl rfl))) rfl rfl (after_mk (K := []) (Ent.refl _) ⟨p, c, rfl, hp⟩)
    refine steps_cons (j := 54) (.row [0]) 166 rfl rfl rfl (fun E K0 hb hdep => ?_) ?_
    · exact JO_buildSlice (cs := [.int .i64 0]) rfl rfl rfl (by decide) rfl fun r => after_mk (row_made (l := [0]) (by simp [maxLen])) ⟨some ⟨r, 0, none⟩, 1, rfl, HasP.head (pers_vw _ _ _ _)⟩
    refine steps_cons (j := 55) (.insn ⟨19, 0, 0, 0, 0, [0]⟩) 167 rfl rfl rfl (fun E K0 hb hdep => ?_) ?_
    · obtain ⟨v166, w166, p, c, rfl, hp⟩ := hdep 53 (.row [0]) rfl rfl
      exact JO_build (cs := [.int .i64 19, .int .i64 0, .int .i64 0, .int .i64 0, .int .i64 0, .slice p 1 c]) (pevs1 rfl (pevs1 w166 rfl)) rfl rfl (after_mk (K := []) (Ent.refl _) ⟨_, rfl, .inr ⟨p, c, rfl, hp⟩⟩)
    refine steps_cons (j := 56) (.code k13) 168 rfl rfl rfl (fun E K0 hb hdep => ?_) ?_
    · obtain ⟨v167, w167, i0, rfl, h0⟩ := hdep 54 (.insn ⟨19, 0, 0, 0, 0, [0]⟩) rfl rfl
      exact JO_buildSlice (vs := [.agg ([.int .i64 19, .int .i64 0, .int .i64 0, .int .i64 0, .int .i64 0, i0] : List Value).toArray]) rfl (evs1 w167 (rfl)) rfl (by decide) rfl fun r => after_mk (code_made (xs := k13) (lvs := [i0]) rfl (by simp [maxLen, k13]) (rows_v h0 (rows_nil))) ⟨some ⟨r, 0, none⟩, 1, rfl, HasP.head (pers_code _ _)⟩
    refine steps_cons (j := 57) (.entry k13 (-1) 0) 169 rfl rfl rfl (fun E K0 hb hdep => ?_) ?_
    · obtain ⟨v168, w168, p, c, rfl, hp⟩ := hdep 55 (.code k13) rfl rfl
      exact JO_build (cs := [.slice p 1 c, .int .i64 (-1), .int .i64 0]) (pevs1 w168 (pevs1 rfl (pevs1 rfl rfl))) rfl rfl (after_mk (K := []) (Ent.refl _) ⟨p, c, rfl, hp⟩)
    refine steps_cons (j := 58) (.row [9]) 170 rfl rfl rfl (fun E K0 hb hdep => ?_) ?_
    · exact JO_buildSlice (cs := [.int .i64 9]) rfl rfl rfl (by decide) rfl fun r => after_mk (row_made (l := [9]) (by simp [maxLen])) ⟨some ⟨r, 0, none⟩, 1, rfl, HasP.head (pers_vw _ _ _ _)⟩
    refine steps_cons (j := 59) (.insn ⟨14, 0, 0, 0, 0, [9]⟩) 171 rfl rfl rfl (fun E K0 hb hdep => ?_) ?_
    · obtain ⟨v170, w170, p, c, rfl, hp⟩ := hdep 57 (.row [9]) rfl rfl
      exact JO_build (cs := [.int .i64 14, .int .i64 0, .int .i64 0, .int .i64 0, .int .i64 0, .slice p 1 c]) (pevs1 rfl (pevs1 w170 rfl)) rfl rfl (after_mk (K := []) (Ent.refl _) ⟨_, rfl, .inr ⟨p, c, rfl, hp⟩⟩)
    refine steps_cons (j := 60) (.insn ⟨24, 0, 0, 0, 0, []⟩) 172 rfl rfl rfl (fun E K0 hb hdep => ?_) ?_
    · exact JO_loadAL [.int .i64 24, .int .i64 0, .int .i64 0, .int .i64 0, .int .i64 0, .slice none 0 0] ((hb 1 (by simp)).trans e1) (fun i u hu => lds_ext (l1 i u hu) K0) rfl rfl (after_mk (K := []) (Ent.refl _) ⟨_, rfl, .inl ⟨rfl, rfl⟩⟩)
    refine steps_cons (j := 61) (.code k14) 173 rfl rfl rfl (fun E K0 hb hdep => ?_) ?_
    · obtain ⟨v171, w171, i0, rfl, h0⟩ := hdep 58 (.insn ⟨14, 0, 0, 0, 0, [9]⟩) rfl rfl
      obtain ⟨v172, w172, i1, rfl, h1⟩ := hdep 59 (.insn ⟨24, 0, 0, 0, 0, []⟩) rfl rfl
      exact JO_buildSlice (vs := [.agg ([.int .i64 14, .int .i64 0, .int .i64 0, .int .i64 0, .int .i64 0, i0] : List Value).toArray, .agg ([.int .i64 24, .int .i64 0, .int .i64 0, .int .i64 0, .int .i64 0, i1] : List Value).toArray]) rfl (evs1 w171 (evs1 w172 (rfl))) rfl (by decide) rfl fun r => after_mk (code_made (xs := k14) (lvs := [i0, i1]) rfl (by simp [maxLen, k14]) (rows_v h0 (rows_v h1 (rows_nil)))) ⟨some ⟨r, 0, none⟩, 2, rfl, HasP.head (pers_code _ _)⟩
    refine steps_cons (j := 62) (.entry k14 (-1) 0) 174 rfl rfl rfl (fun E K0 hb hdep => ?_) ?_
    · obtain ⟨v173, w173, p, c, rfl, hp⟩ := hdep 60 (.code k14) rfl rfl
      exact JO_build (cs := [.slice p 2 c, .int .i64 (-1), .int .i64 0]) (pevs1 w173 (pevs1 rfl (pevs1 rfl rfl))) rfl rfl (after_mk (K := []) (Ent.refl _) ⟨p, c, rfl, hp⟩)
    refine steps_cons (j := 63) (.insn ⟨99, 0, 0, 0, 0, []⟩) 175 rfl rfl rfl (fun E K0 hb hdep => ?_) ?_
    · exact JO_build (cs := [.int .i64 99, .int .i64 0, .int .i64 0, .int .i64 0, .int .i64 0, .slice none 0 0]) (pevs1 rfl rfl) rfl rfl (after_mk (K := []) (Ent.refl _) ⟨_, rfl, .inl ⟨rfl, rfl⟩⟩)
    refine steps_cons (j := 64) (.insn ⟨24, 0, 0, 0, 0, []⟩) 176 rfl rfl rfl (fun E K0 hb hdep => ?_) ?_
    · exact JO_loadAL [.int .i64 24, .int .i64 0, .int .i64 0, .int .i64 0, .int .i64 0, .slice none 0 0] ((hb 1 (by simp)).trans e1) (fun i u hu => lds_ext (l1 i u hu) K0) rfl rfl (after_mk (K := []) (Ent.refl _) ⟨_, rfl, .inl ⟨rfl, rfl⟩⟩)
    refine steps_cons (j := 65) (.code k15) 177 rfl rfl rfl (fun E K0 hb hdep => ?_) ?_
    · obtain ⟨v175, w175, i0, rfl, h0⟩ := hdep 62 (.insn ⟨99, 0, 0, 0, 0, []⟩) rfl rfl
      obtain ⟨v176, w176, i1, rfl, h1⟩ := hdep 63 (.insn ⟨24, 0, 0, 0, 0, []⟩) rfl rfl
      exact JO_buildSlice (vs := [.agg ([.int .i64 99, .int .i64 0, .int .i64 0, .int .i64 0, .int .i64 0, i0] : List Value).toArray, .agg ([.int .i64 24, .int .i64 0, .int .i64 0, .int .i64 0, .int .i64 0, i1] : List Value).toArray]) rfl (evs1 w175 (evs1 w176 (rfl))) rfl (by decide) rfl fun r => after_mk (code_made (xs := k15) (lvs := [i0, i1]) rfl (by simp [maxLen, k15]) (rows_v h0 (rows_v h1 (rows_nil)))) ⟨some ⟨r, 0, none⟩, 2, rfl, HasP.head (pers_code _ _)⟩
    refine steps_cons (j := 66) (.entry k15 (-1) 0) 178 rfl rfl rfl (fun E K0 hb hdep => ?_) ?_
    · obtain ⟨v177, w177, p, c, rfl, hp⟩ := hdep 64 (.code k15) rfl rfl
      exact JO_build (cs := [.slice p 2 c, .int .i64 (-1), .int .i64 0]) (pevs1 w177 (pevs1 rfl (pevs1 rfl rfl))) rfl rfl (after_mk (K := []) (Ent.refl _) ⟨p, c, rfl, hp⟩)
    refine steps_cons (j := 67) (.table) 179 rfl rfl rfl (fun E K0 hb hdep => ?_) ?_
    · obtain ⟨v113, w113, p0, c0, rfl, h0⟩ := hdep 0 (.entry [] (-1) 2) rfl rfl
      obtain ⟨v115, w115, p1, c1, rfl, h1⟩ := hdep 2 (.entry longI (-1) 2) rfl rfl
      obtain ⟨v118, w118, p2, c2, rfl, h2⟩ := hdep 5 (.entry rearI (-1) 0) rfl rfl
      obtain ⟨v121, w121, p3, c3, rfl, h3⟩ := hdep 8 (.entry k3 0 12) rfl rfl
      obtain ⟨v126, w126, p4, c4, rfl, h4⟩ := hdep 13 (.entry k4 0 14) rfl rfl
      obtain ⟨v132, w132, p5, c5, rfl, h5⟩ := hdep 19 (.entry k5 1 13) rfl rfl
      obtain ⟨v137, w137, p6, c6, rfl, h6⟩ := hdep 24 (.entry k6 0 12) rfl rfl
      obtain ⟨v141, w141, p7, c7, rfl, h7⟩ := hdep 28 (.entry k7 0 12) rfl rfl
      obtain ⟨v145, w145, p8, c8, rfl, h8⟩ := hdep 32 (.entry k8 0 12) rfl rfl
      obtain ⟨v151, w151, p9, c9, rfl, h9⟩ := hdep 38 (.entry k9 1 12) rfl rfl
      obtain ⟨v156, w156, p10, c10, rfl, h10⟩ := hdep 43 (.entry k10 1 12) rfl rfl
      obtain ⟨v160, w160, p11, c11, rfl, h11⟩ := hdep 47 (.entry k11 1 13) rfl rfl
      obtain ⟨v165, w165, p12, c12, rfl, h12⟩ := hdep 52 (.entry k12 1 14) rfl rfl
      obtain ⟨v169, w169, p13, c13, rfl, h13⟩ := hdep 56 (.entry k13 (-1) 0) rfl rfl
      obtain ⟨v174, w174, p14, c14, rfl, h14⟩ := hdep 61 (.entry k14 (-1) 0) rfl rfl
      obtain ⟨v178, w178, p15, c15, rfl, h15⟩ := hdep 65 (.entry k15 (-1) 0) rfl rfl
      refine JO_buildSlice (hc := cat_table [⟨p0, c0, [], -1, 2⟩, ⟨p1, c1, longI, -1, 2⟩, ⟨p2, c2, rearI, -1, 0⟩, ⟨p3, c3, k3, 0, 12⟩, ⟨p4, c4, k4, 0, 14⟩, ⟨p5, c5, k5, 1, 13⟩, ⟨p6, c6, k6, 0, 12⟩, ⟨p7, c7, k7, 0, 12⟩, ⟨p8, c8, k8, 0, 12⟩, ⟨p9, c9, k9, 1, 12⟩, ⟨p10, c10, k10, 1, 12⟩, ⟨p11, c11, k11, 1, 13⟩, ⟨p12, c12, k12, 1, 14⟩, ⟨p13, c13, k13, -1, 0⟩, ⟨p14, c14, k14, -1, 0⟩, ⟨p15, c15, k15, -1, 0⟩]) rfl (evs1 w113 (evs1 w115 (evs1 w118 (evs1 w121 (evs1 w126 (evs1 w132 (evs1 w137 (evs1 w141 (evs1 w145 (evs1 w151 (evs1 w156 (evs1 w160 (evs1 w165 (evs1 w169 (evs1 w174 (evs1 w178 (rfl))))))))))))))))) rfl (by decide) rfl fun r => after_mk (table_made (T := [⟨p0, c0, [], -1, 2⟩, ⟨p1, c1, longI, -1, 2⟩, ⟨p2, c2, rearI, -1, 0⟩, ⟨p3, c3, k3, 0, 12⟩, ⟨p4, c4, k4, 0, 14⟩, ⟨p5, c5, k5, 1, 13⟩, ⟨p6, c6, k6, 0, 12⟩, ⟨p7, c7, k7, 0, 12⟩, ⟨p8, c8, k8, 0, 12⟩, ⟨p9, c9, k9, 1, 12⟩, ⟨p10, c10, k10, 1, 12⟩, ⟨p11, c11, k11, 1, 13⟩, ⟨p12, c12, k12, 1, 14⟩, ⟨p13, c13, k13, -1, 0⟩, ⟨p14, c14, k14, -1, 0⟩, ⟨p15, c15, k15, -1, 0⟩]) rfl (codes_h h0 (codes_h h1 (codes_h h2 (codes_h h3 (codes_h h4 (codes_h h5 (codes_h h6 (codes_h h7 (codes_h h8 (codes_h h9 (codes_h h10 (codes_h h11 (codes_h h12 (codes_h h13 (codes_h h14 (codes_h h15 (codes_nil)))))))))))))))))) ⟨r, [⟨p0, c0, [], -1, 2⟩, ⟨p1, c1, longI, -1, 2⟩, ⟨p2, c2, rearI, -1, 0⟩, ⟨p3, c3, k3, 0, 12⟩, ⟨p4, c4, k4, 0, 14⟩, ⟨p5, c5, k5, 1, 13⟩, ⟨p6, c6, k6, 0, 12⟩, ⟨p7, c7, k7, 0, 12⟩, ⟨p8, c8, k8, 0, 12⟩, ⟨p9, c9, k9, 1, 12⟩, ⟨p10, c10, k10, 1, 12⟩, ⟨p11, c11, k11, 1, 13⟩, ⟨p12, c12, k12, 1, 14⟩, ⟨p13, c13, k13, -1, 0⟩, ⟨p14, c14, k14, -1, 0⟩, ⟨p15, c15, k15, -1, 0⟩], rfl, ?_, rfl, HasP.head (pers_vw _ _ _ _), HasP.ext (HasP.head (pers_codes _)) [_]⟩
      intro t ht
      simp only [List.mem_cons, List.not_mem_nil, or_false] at ht
      rcases ht with rfl | rfl | rfl | rfl | rfl | rfl | rfl | rfl | rfl | rfl | rfl | rfl | rfl | rfl | rfl | rfl
      · exact good_nil
      · exact good_long
      · exact good_rear
      · exact good_k3
      · exact good_k4
      · exact good_k5
      · exact good_k6
      · exact good_k7
      · exact good_k8
      · exact good_k9
      · exact good_k10
      · exact good_k11
      · exact good_k12
      · exact good_k13
      · exact good_k14
      · exact good_k15
    refine steps_cons (j := 68) (.val (.int .i64 16)) 180 rfl rfl rfl (fun E K0 hb hdep => ?_) ?_
    · obtain ⟨v179, w179, r, T, rfl, _⟩ := hdep 66 (.table) rfl rfl
      exact JO_len w179 rfl (after_mk (K := []) (Ent.refl _) rfl)
    refine steps_cons (j := 69) (.val (.int .i64 0)) 181 rfl rfl rfl (fun E K0 hb hdep => ?_) ?_
    · exact JO_move rfl rfl (after_mk (K := []) (Ent.refl _) rfl)
    exact steps_nil
  · intro E K hb ha
    obtain ⟨v1, w1, h1⟩ := ha 66 179 (by kernel_rfl)
    obtain ⟨v2, w2, h2⟩ := ha 67 180 (by kernel_rfl)
    obtain ⟨v3, w3, h3⟩ := ha 68 181 (by kernel_rfl)
    obtain ⟨r, T, rfl, g1, g2, g3, g4⟩ := (h1 : SK.ok .table _ _)
    obtain rfl := (h2 : SK.ok (.val (.int .i64 16)) _ _)
    obtain rfl := (h3 : SK.ok (.val (.int .i64 0)) _ _)
    exact hfin E _ r T ((hb 1 (by simp)).trans e1) ((hb 2 (by simp)).trans e2) ((hb 3 (by simp)).trans e3) w1 w2 w3 g1 g2 (g3.trans (Ent.keep (g4.trans (Ent.keep ((Ent.rest K _).trans Ent.sel)))))
end Go.Proofs.Ytemanjljjlpbgaa
