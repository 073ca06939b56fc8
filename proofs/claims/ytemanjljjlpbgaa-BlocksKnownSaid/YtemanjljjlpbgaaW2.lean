/- Layer 10: how BlocksKnown's codes are cut -/
import Derived.Test.YtemanjljjlpbgaaW1
import Derived.Test.YtemanjljjlpbgaaL2
namespace Go.Proofs.Ytemanjljjlpbgaa
open Go Go.Sp
def kA : List Insn := [⟨0, 0, 0, 0, 0, []⟩, ⟨15, 0, 0, 0, 0, []⟩, ⟨11, 0, 0, 0, 0, [0]⟩]
theorem cut_kA : cutF kA = ⟨[0], [[0]], -1, 0⟩ := by
  have hw : firstOf (Wrong kA) kA.length = -1 := firstOf_none (by decide)
  have hs : silentI kA = -1 := by
    refine firstOf_none fun j hj => ?_
    have hj2 : j < 3 := hj
    have : j = 0 ∨ j = 1 ∨ j = 2 := by omega
    rcases this with rfl | rfl | rfl
    · exact fun h => not_reach [1] (by decide) (by decide) (by decide) h.2
    · exact fun h => absurd h.1 (by decide)
    · exact fun h => not_reach [0, 1] (by decide) (by decide) (by decide) h.2
  unfold cutF
  rw [if_neg (by decide), hw, if_neg (by decide), if_neg (by decide), hs, if_neg (by decide)]
  rfl
def kB : List Insn := [⟨19, 0, 0, 0, 0, [2, 1, 2]⟩, ⟨0, 0, 0, 0, 0, []⟩, ⟨15, 0, 0, 0, 0, []⟩, ⟨12, 0, 0, 0, 0, [1]⟩, ⟨24, 0, 0, 0, 0, []⟩]
theorem cut_kB : cutF kB = ⟨[0, 1, 2, 4], [[2, 1, 2], [2], [1, 3], []], -1, 0⟩ := by
  have hw : firstOf (Wrong kB) kB.length = -1 := firstOf_none (by decide)
  have hs : silentI kB = -1 := by
    refine firstOf_none fun j hj => ?_
    have hj2 : j < 5 := hj
    have : j = 0 ∨ j = 1 ∨ j = 2 ∨ j = 3 ∨ j = 4 := by omega
    rcases this with rfl | rfl | rfl | rfl | rfl
    · exact fun h => absurd h.1 (by decide)
    · exact fun h => not_reach [2] (by decide) (by decide) (by decide) h.2
    · exact fun h => absurd h.1 (by decide)
    · exact fun h => not_reach [1, 2, 4] (by decide) (by decide) (by decide) h.2
    · exact fun h => not_reach [] (by decide) (by decide) (by decide) h.2
  unfold cutF
  rw [if_neg (by decide), hw, if_neg (by decide), if_neg (by decide), hs, if_neg (by decide)]
  rfl
def k3 : List Insn := [⟨0, 0, 0, 0, 0, []⟩]
theorem cut_k3 : cutF k3 = ⟨[], [], 0, 12⟩ := by
  have hw : firstOf (Wrong k3) k3.length = 0 := firstOf_hit (k := 0) (by decide) (by decide) (by decide)
  unfold cutF
  rw [if_neg (by decide), hw, if_pos (by decide)]
def k4 : List Insn := [⟨0, 0, 0, 0, 0, []⟩, ⟨11, 0, 0, 0, 0, [0]⟩]
theorem cut_k4 : cutF k4 = ⟨[], [], 0, 14⟩ := by
  have hw : firstOf (Wrong k4) k4.length = -1 := firstOf_none (by decide)
  have hs : silentI k4 = 0 := by
    refine firstOf_hit (k := 0) (by decide) (fun j hj => ?_) ⟨by decide, .more 1 0 (.one 1 (by decide)) (by decide) (by decide) (by decide)⟩
    exact absurd hj (by omega)
  unfold cutF
  rw [if_neg (by decide), hw, if_neg (by decide), if_neg (by decide), hs, if_pos (by decide)]
def k5 : List Insn := [⟨11, 0, 0, 0, 0, [2]⟩, ⟨0, 0, 0, 0, 0, []⟩, ⟨24, 0, 0, 0, 0, []⟩]
theorem cut_k5 : cutF k5 = ⟨[], [], 1, 13⟩ := by
  have hw : firstOf (Wrong k5) k5.length = -1 := firstOf_none (by decide)
  unfold cutF
  rw [if_neg (by decide), hw, if_neg (by decide), if_pos (by decide)]
  rfl
def k6 : List Insn := [⟨11, 0, 0, 0, 0, [1, 1]⟩, ⟨24, 0, 0, 0, 0, []⟩]
theorem cut_k6 : cutF k6 = ⟨[], [], 0, 12⟩ := by
  have hw : firstOf (Wrong k6) k6.length = 0 := firstOf_hit (k := 0) (by decide) (by decide) (by decide)
  unfold cutF
  rw [if_neg (by decide), hw, if_pos (by decide)]
def k7 : List Insn := [⟨11, 0, 0, 0, 0, []⟩, ⟨24, 0, 0, 0, 0, []⟩]
theorem cut_k7 : cutF k7 = ⟨[], [], 0, 12⟩ := by
  have hw : firstOf (Wrong k7) k7.length = 0 := firstOf_hit (k := 0) (by decide) (by decide) (by decide)
  unfold cutF
  rw [if_neg (by decide), hw, if_pos (by decide)]
def k8 : List Insn := [⟨19, 0, 0, 0, 0, []⟩, ⟨24, 0, 0, 0, 0, []⟩]
theorem cut_k8 : cutF k8 = ⟨[], [], 0, 12⟩ := by
  have hw : firstOf (Wrong k8) k8.length = 0 := firstOf_hit (k := 0) (by decide) (by decide) (by decide)
  unfold cutF
  rw [if_neg (by decide), hw, if_pos (by decide)]
def k9 : List Insn := [⟨0, 0, 0, 0, 0, []⟩, ⟨12, 0, 0, 0, 0, [3]⟩, ⟨24, 0, 0, 0, 0, []⟩]
theorem cut_k9 : cutF k9 = ⟨[], [], 1, 12⟩ := by
  have hw : firstOf (Wrong k9) k9.length = 1 := firstOf_hit (k := 1) (by decide) (by decide) (by decide)
  unfold cutF
  rw [if_neg (by decide), hw, if_pos (by decide)]
def k10 : List Insn := [⟨0, 0, 0, 0, 0, []⟩, ⟨12, 0, 0, 0, 0, [0]⟩]
theorem cut_k10 : cutF k10 = ⟨[], [], 1, 12⟩ := by
  have hw : firstOf (Wrong k10) k10.length = 1 := firstOf_hit (k := 1) (by decide) (by decide) (by decide)
  unfold cutF
  rw [if_neg (by decide), hw, if_pos (by decide)]
def k11 : List Insn := [⟨24, 0, 0, 0, 0, []⟩, ⟨24, 0, 0, 0, 0, []⟩]
theorem cut_k11 : cutF k11 = ⟨[], [], 1, 13⟩ := by
  have hw : firstOf (Wrong k11) k11.length = -1 := firstOf_none (by decide)
  unfold cutF
  rw [if_neg (by decide), hw, if_neg (by decide), if_pos (by decide)]
  rfl
def k12 : List Insn := [⟨15, 0, 0, 0, 0, []⟩, ⟨11, 0, 0, 0, 0, [1]⟩]
theorem cut_k12 : cutF k12 = ⟨[], [], 1, 14⟩ := by
  have hw : firstOf (Wrong k12) k12.length = -1 := firstOf_none (by decide)
  have hs : silentI k12 = 1 := by
    refine firstOf_hit (k := 1) (by decide) (fun j hj => ?_) ⟨by decide, .one 1 (by decide)⟩
    have : j = 0 := by omega
    rcases this with rfl
    · exact fun h => absurd h.1 (by decide)
  unfold cutF
  rw [if_neg (by decide), hw, if_neg (by decide), if_neg (by decide), hs, if_pos (by decide)]
def k13 : List Insn := [⟨19, 0, 0, 0, 0, [0]⟩]
theorem cut_k13 : cutF k13 = ⟨[0], [[0]], -1, 0⟩ := by
  have hw : firstOf (Wrong k13) k13.length = -1 := firstOf_none (by decide)
  have hs : silentI k13 = -1 := by
    refine firstOf_none fun j hj => ?_
    have hj2 : j < 1 := hj
    have : j = 0 := by omega
    rcases this with rfl
    · exact fun h => absurd h.1 (by decide)
  unfold cutF
  rw [if_neg (by decide), hw, if_neg (by decide), if_neg (by decide), hs, if_neg (by decide)]
  rfl
def k14 : List Insn := [⟨14, 0, 0, 0, 0, [9]⟩, ⟨24, 0, 0, 0, 0, []⟩]
theorem cut_k14 : cutF k14 = ⟨[0], [[]], -1, 0⟩ := by
  have hw : firstOf (Wrong k14) k14.length = -1 := firstOf_none (by decide)
  have hs : silentI k14 = -1 := by
    refine firstOf_none fun j hj => ?_
    have hj2 : j < 2 := hj
    have : j = 0 ∨ j = 1 := by omega
    rcases this with rfl | rfl
    · exact fun h => absurd h.1 (by decide)
    · exact fun h => not_reach [] (by decide) (by decide) (by decide) h.2
  unfold cutF
  rw [if_neg (by decide), hw, if_neg (by decide), if_neg (by decide), hs, if_neg (by decide)]
  rfl
def k15 : List Insn := [⟨99, 0, 0, 0, 0, []⟩, ⟨24, 0, 0, 0, 0, []⟩]
theorem cut_k15 : cutF k15 = ⟨[0], [[]], -1, 0⟩ := by
  have hw : firstOf (Wrong k15) k15.length = -1 := firstOf_none (by decide)
  have hs : silentI k15 = -1 := by
    refine firstOf_none fun j hj => ?_
    have hj2 : j < 2 := hj
    have : j = 0 ∨ j = 1 := by omega
    rcases this with rfl | rfl
    · exact fun h => not_reach [1] (by decide) (by decide) (by decide) h.2
    · exact fun h => not_reach [] (by decide) (by decide) (by decide) h.2
  unfold cutF
  rw [if_neg (by decide), hw, if_neg (by decide), if_neg (by decide), hs, if_neg (by decide)]
  rfl
def nopI : Insn := ⟨0, 0, 0, 0, 0, []⟩
def stopI : Insn := ⟨24, 0, 0, 0, 0, []⟩
def longI : List Insn := List.replicate 128 nopI ++ [stopI]
def rearI : List Insn := List.replicate 127 nopI ++ [stopI]
theorem long_len : longI.length = 129 := by simp [longI]
theorem rear_len : rearI.length = 128 := by simp [rearI]
theorem rear_get {i : Nat} {x : Insn} (h : rearI[i]? = some x) : (i < 127 ∧ x = nopI) ∨ (i = 127 ∧ x = stopI) := by
  unfold rearI at h
  rw [List.getElem?_append, List.length_replicate] at h
  split at h
  · rename_i hi
    rw [List.getElem?_replicate, if_pos hi] at h
    cases h
    exact .inl ⟨hi, rfl⟩
  · rename_i hi
    have h2 : i - 127 = 0 := by have := (List.getElem?_eq_some_iff.1 h).1; simp at this; omega
    rw [h2] at h
    cases h
    exact .inr ⟨by omega, rfl⟩
theorem rear_goes {k t : Int} (h : t ∈ goesI rearI k) : t = k + 1 := by
  unfold goesI at h
  split at h
  · unfold goes at h
    split at h
    · rename_i x hx
      rcases rear_get hx with ⟨h1, rfl⟩ | ⟨h1, rfl⟩
      · have e1 : tgts nopI = [] := by decide
        have e2 : closesB nopI.op = false := by decide
        rw [e1, e2] at h
        simp at h
        omega
      · have e1 : tgts stopI = [] := by decide
        have e2 : closesB stopI.op = true := by decide
        rw [e1, e2] at h
        simp at h
    · cases h
  · cases h
theorem rear_reach {i t : Int} (h : Reach rearI i t) : i < t := by
  induction h with
  | one t ht => have := rear_goes ht; omega
  | more k t _ _ _ ht ih => have := rear_goes ht; omega
theorem cut_long : (cutF longI).at_ = -1 ∧ (cutF longI).e = 2 := by
  unfold cutF
  rw [if_pos (by rw [long_len]; omega)]
  exact ⟨rfl, rfl⟩
theorem cut_rear : (cutF rearI).at_ = -1 ∧ (cutF rearI).e = 0 := by
  have hw : firstOf (Wrong rearI) rearI.length = -1 := by
    refine firstOf_none fun j hj => ?_
    rintro ⟨x, hx, hr⟩
    have hl := rear_len
    rcases rear_get hx with ⟨h1, rfl⟩ | ⟨h1, rfl⟩
    · have : rightB rearI j nopI = true := by
        unfold rightB
        have e1 : tgts nopI = [] := by decide
        have e2 : isB nopI.op 4 = false := by decide
        have e3 : decide (nopI.op ≠ 19) = true := by decide
        rw [e1, e2, e3, hl]
        have : decide ((j : Int) < ((128 : Nat) : Int) - 1) = true := decide_eq_true (by omega)
        rw [this]
        rfl
      rw [this] at hr; cases hr
    · have : rightB rearI j stopI = true := by
        unfold rightB
        have e1 : tgts stopI = [] := by decide
        have e2 : isB stopI.op 4 = false := by decide
        have e3 : decide (stopI.op ≠ 19) = true := by decide
        have e4 : closesB stopI.op = true := by decide
        rw [e1, e2, e3, e4, Bool.or_true]
        rfl
      rw [this] at hr; cases hr
  have hs : silentI rearI = -1 := firstOf_none fun j hj h => by have := rear_reach h.2; omega
  have hd : ¬ 0 < deadB (nextsL rearI) := by
    intro h
    obtain ⟨s, _, h2, h3, h4⟩ := dead_told h
    have hl := rear_len
    obtain ⟨j, rfl⟩ : ∃ j, s = j + 1 := ⟨s - 1, by omega⟩
    refine h4 j (by omega) ?_
    obtain ⟨x, hx⟩ : ∃ x, rearI[j]? = some x := ⟨_, List.getElem?_eq_getElem (by omega)⟩
    rcases rear_get hx with ⟨h5, rfl⟩ | ⟨h5, rfl⟩
    · have e1 : tgts nopI = [] := by decide
      have e2 : closesB nopI.op = false := by decide
      simp [goes, hx, e1, e2]
    · omega
  unfold cutF
  rw [if_neg (by rw [rear_len]; omega), hw, if_neg (by decide), if_neg hd, hs, if_neg (by decide)]
  exact ⟨rfl, rfl⟩
theorem cut_none : (cutF []).at_ = -1 ∧ (cutF []).e = 2 := by
  unfold cutF
  rw [if_pos (.inl rfl)]
  exact ⟨rfl, rfl⟩
/-- What is asked of a code of the table. -/
def Good (xs : List Insn) (at_ e : Int) : Prop := (cutF xs).at_ = at_ ∧ (cutF xs).e = e ∧ xs.length ≤ 129 ∧ ∀ x ∈ xs, x.l.length ≤ 3
theorem good_k3 : Good k3 0 12 := ⟨by rw [cut_k3], by rw [cut_k3], by decide, by decide⟩
theorem good_k4 : Good k4 0 14 := ⟨by rw [cut_k4], by rw [cut_k4], by decide, by decide⟩
theorem good_k5 : Good k5 1 13 := ⟨by rw [cut_k5], by rw [cut_k5], by decide, by decide⟩
theorem good_k6 : Good k6 0 12 := ⟨by rw [cut_k6], by rw [cut_k6], by decide, by decide⟩
theorem good_k7 : Good k7 0 12 := ⟨by rw [cut_k7], by rw [cut_k7], by decide, by decide⟩
theorem good_k8 : Good k8 0 12 := ⟨by rw [cut_k8], by rw [cut_k8], by decide, by decide⟩
theorem good_k9 : Good k9 1 12 := ⟨by rw [cut_k9], by rw [cut_k9], by decide, by decide⟩
theorem good_k10 : Good k10 1 12 := ⟨by rw [cut_k10], by rw [cut_k10], by decide, by decide⟩
theorem good_k11 : Good k11 1 13 := ⟨by rw [cut_k11], by rw [cut_k11], by decide, by decide⟩
theorem good_k12 : Good k12 1 14 := ⟨by rw [cut_k12], by rw [cut_k12], by decide, by decide⟩
theorem good_k13 : Good k13 (-1) 0 := ⟨by rw [cut_k13], by rw [cut_k13], by decide, by decide⟩
theorem good_k14 : Good k14 (-1) 0 := ⟨by rw [cut_k14], by rw [cut_k14], by decide, by decide⟩
theorem good_k15 : Good k15 (-1) 0 := ⟨by rw [cut_k15], by rw [cut_k15], by decide, by decide⟩
theorem good_nil : Good [] (-1) 2 := ⟨cut_none.1, cut_none.2, by decide, fun x hx => absurd hx (List.not_mem_nil)⟩
theorem small_same {x : Insn} (h : x = nopI ∨ x = stopI) : x.l.length ≤ 3 := by rcases h with rfl | rfl <;> decide
theorem good_long : Good longI (-1) 2 := ⟨cut_long.1, cut_long.2, by rw [long_len]; omega, fun x hx => small_same (by simp [longI] at hx; exact hx)⟩
theorem good_rear : Good rearI (-1) 0 := ⟨cut_rear.1, cut_rear.2, by rw [rear_len]; omega, fun x hx => small_same (by simp [rearI] at hx; exact hx)⟩
end Go.Proofs.Ytemanjljjlpbgaa
