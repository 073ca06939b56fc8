/- Layer 10: rows of codes; a long code -/
import Derived.Test.YtemanjljjlpbgaaW2
import Derived.Test.YtemanjljjlpbgaaR5
import Derived.Test.YtemanjljjlpbgaaK1
import Derived.Test.YtemanjljjlpbgaaSp20
namespace Go.Proofs.Ytemanjljjlpbgaa
open Go Go.Sp
def longPre : List Value := ((List.replicate 128 nopI).zip (List.replicate 128 (Value.slice none 0 0))).flatMap insnCells
def longMade : List Value := ((List.replicate 129 nopI).zip (List.replicate 129 (Value.slice none 0 0))).flatMap insnCells
def longAll : List Value := longPre ++ insnCells (stopI, .slice none 0 0)
theorem rep_last {α : Type} (n : Nat) (a : α) : List.replicate (n + 1) a = List.replicate n a ++ [a] := by simp [List.replicate_succ']
theorem long_split : longMade = longPre ++ insnCells (nopI, .slice none 0 0) ++ [] := by
  unfold longMade longPre
  rw [rep_last 128 nopI, rep_last 128 (Value.slice none 0 0), List.zip_append (by simp), List.flatMap_append, List.append_nil]
  rfl
theorem made_rep {α : Type} {k : Nat} (hk : 0 < k) (f : α → List Value) (hf : ∀ y, (f y).length = k) (n : Nat) (x : α) : madeCells (f x).toArray (n * k) = ((List.replicate n x).flatMap f).toArray := by
  apply Array.ext'
  refine List.ext_getElem? fun i => ?_
  have hl : ((List.replicate n x).flatMap f).length = n * k := by rw [length_flat hf]; simp
  by_cases hi : i < n * k
  · have hj : i / k < n := (Nat.div_lt_iff_lt_mul hk).2 hi
    have hr : i % k < k := Nat.mod_lt _ hk
    have e1 : i = i / k * k + i % k := by rw [Nat.mul_comm]; exact (Nat.div_add_mod i k).symm
    have hg := flat_get hf (List.replicate n x) (i / k) (i % k) x hr (by simp [hj])
    rw [← e1] at hg
    rw [hg]
    have hfx : i % k < (f x).length := by rw [hf]; exact hr
    simp [madeCells, hi, hf, List.getElem?_eq_getElem hfx, getElem!_pos, hfx]
  · rw [List.getElem?_eq_none (by simp [madeCells]; omega), List.getElem?_eq_none (by simp only [hl]; omega)]
theorem long_made : madeCells (Value.agg #[.int .i64 0, .int .i64 0, .int .i64 0, .int .i64 0, .int .i64 0, .slice none 0 0]).cells (129 * 6) = longMade.toArray := by
  have h := made_rep (k := 6) (by decide) insnCells length_insnCells 129 (nopI, Value.slice none 0 0)
  unfold longMade
  rw [show (List.replicate 129 nopI).zip (List.replicate 129 (Value.slice none 0 0)) = List.replicate 129 (nopI, Value.slice none 0 0) from List.zip_replicate' ..]
  exact h
theorem long_off : 0 + 128 * 6 = longPre.length := by
  unfold longPre
  rw [length_flat length_insnCells]
  simp
theorem long_all : longPre ++ insnCells (stopI, .slice none 0 0) ++ [] = longAll := by rw [List.append_nil]; rfl
theorem long_cells : longAll = (longI.zip (List.replicate 129 (Value.slice none 0 0))).flatMap insnCells := by
  unfold longAll longPre longI
  rw [rep_last 128 (Value.slice none 0 0), List.zip_append (by simp), List.flatMap_append]
  rfl
theorem rear_cells : longAll = insnCells (nopI, .slice none 0 0) ++ (rearI.zip (List.replicate 128 (Value.slice none 0 0))).flatMap insnCells := by
  rw [long_cells]
  have e : longI = nopI :: rearI := by unfold longI rearI; rw [List.replicate_succ]; rfl
  rw [e, show List.replicate 129 (Value.slice none 0 0) = Value.slice none 0 0 :: List.replicate 128 (Value.slice none 0 0) from List.replicate_succ, List.zip_cons_cons, List.flatMap_cons]
/-- A code without lists, in a block that is frozen. -/
theorem vcode_plain {r o c : Nat} {xs : List Insn} {all pre : List Value} (hx : ∀ x ∈ xs, x.l = []) (hn : xs.length ≤ maxLen) (hp : pre.length = o) (ha : all = pre ++ (xs.zip (List.replicate xs.length (Value.slice none 0 0))).flatMap insnCells) (k : Part) (h : ro r (.cells all.toArray 40 (0, 0)) k) :
    VCode (.slice (some ⟨r, o, none⟩) xs.length c) xs k := by
  refine ⟨List.replicate xs.length (.slice none 0 0), by simp, ⟨?_, hn, _, c, rfl, .inr ⟨r, o, all, 40, (0, 0), rfl, h, fun i u hu => ?_⟩⟩, fun i x lv hxi hl => ?_⟩
  · rw [length_flat length_insnCells]; simp
  · rw [ha, ← hp, List.getElem?_append_right (by omega), Nat.add_sub_cancel_left]
    exact hu
  · have e1 := hx x (List.mem_of_getElem? hxi)
    have e2 : lv = .slice none 0 0 := by
      rw [List.getElem?_replicate] at hl
      split at hl
      · cases hl; rfl
      · cases hl
    subst e2
    rw [e1]
    exact ⟨none, 0, rfl, vw_nil k⟩
theorem long_codes {rl : Nat} (k : Part) (h : ro rl (.cells longAll.toArray 40 (0, 0)) k) : ∃ _ : Unit, Star [VCode (.slice (some ⟨rl, 0, none⟩) longI.length 129) longI, VCode (.slice (some ⟨rl, 6, none⟩) rearI.length 128) rearI] k := by
  refine ⟨(), star_pers ?_⟩
  intro A hA
  simp only [List.mem_cons, List.not_mem_nil, or_false] at hA
  rcases hA with rfl | rfl
  · exact ⟨pers_code _ _, vcode_plain (pre := []) (by intro x hx; simp [longI] at hx; rcases hx with rfl | rfl <;> rfl) (by rw [long_len]; simp [maxLen]) rfl (by rw [long_len]; exact long_cells) k h⟩
  · exact ⟨pers_code _ _, vcode_plain (pre := insnCells (nopI, .slice none 0 0)) (by intro x hx; simp [rearI] at hx; rcases hx with rfl | rfl <;> rfl) (by rw [rear_len]; simp [maxLen]) rfl (by rw [rear_len]; exact rear_cells) k h⟩
theorem code_join {v : Value} {xs : List Insn} {lvs : List Value} {L : List HP} (h : Ent L (Lists lvs (xs.map Insn.l) :: L)) : Ent (Vw 6 v xs.length ((xs.zip lvs).flatMap insnCells) :: L) (VCode v xs :: L) := (Ent.keep h).trans (vcode_lists xs.length rfl)
/-- A row of the table. -/
structure Entry where
  (p : Option Addr) (c : Nat) (xs : List Insn) (at_ e : Int)
def entryCells (t : Entry) : List Value := [.slice t.p t.xs.length t.c, .int .i64 t.at_, .int .i64 t.e]
theorem length_entry (t : Entry) : (entryCells t).length = 3 := rfl
def Codes (T : List Entry) : HP := fun h => ∀ t ∈ T, VCode (.slice t.p t.xs.length t.c) t.xs h
theorem pers_codes (T : List Entry) : Pers (Codes T) := fun _ h t ht => pers_code _ _ _ (h t ht)
instance (T : List Entry) : PersA (Codes T) := ⟨pers_codes T⟩
theorem up_code (v : Value) (xs : List Insn) : Up (VCode v xs) := fun _ _ hl ⟨lvs, h1, h2, h3⟩ => ⟨lvs, h1, up_vw _ _ _ _ _ _ hl h2, fun i x lv hx hlv => let ⟨p, cap, e, hv⟩ := h3 i x lv hx hlv; ⟨p, cap, e, up_vw _ _ _ _ _ _ hl hv⟩⟩
theorem up_codes (T : List Entry) : Up (Codes T) := fun _ _ hl h t ht => up_code _ _ _ _ hl (h t ht)
theorem codes_nil {L : List HP} : Ent L (Codes [] :: L) := Ent.cons fun w M h => h.add (fun t ht => absurd ht (List.not_mem_nil))
theorem codes_cons {L M : List HP} {p : Option Addr} {c : Nat} {xs : List Insn} {at_ e : Int} {T : List Entry} [t : Tk (VCode (.slice p xs.length c) xs) L M] (h : Ent L (Codes T :: L)) : Ent L (Codes (⟨p, c, xs, at_, e⟩ :: T) :: L) := by
  refine (Ent.dup (VCode (.slice p xs.length c) xs)).trans ((Ent.keep h).trans ?_)
  intro F w hs
  refine (Sat.join (M := [VCode (.slice p xs.length c) xs, Codes T]) (L := F :: L) (hs.perm ((List.Perm.swap _ _ _).trans (List.Perm.cons _ (List.Perm.swap _ _ _)))) fun k hk => ?_).swap
  obtain ⟨h1, h2⟩ := star_two (up_code _ _) (up_codes _) hk
  intro t ht
  rcases List.mem_cons.1 ht with rfl | ht
  · exact h1
  · exact h2 t ht
theorem codes_at {T : List Entry} {t : Entry} (ht : t ∈ T) (k : Part) (h : Codes T k) : ∃ _ : Unit, Star [VCode (.slice t.p t.xs.length t.c) t.xs] k := by
  refine ⟨(), star_pers ?_⟩
  intro A hA
  simp only [List.mem_cons, List.not_mem_nil, or_false] at hA
  subst hA
  exact ⟨pers_code _ _, h t ht⟩
theorem vcode_nil (k : Part) : VCode (.slice none (List.length ([] : List Insn)) 0) [] k := ⟨[], rfl, ⟨rfl, Nat.zero_le _, none, 0, rfl, .inl rfl⟩, fun i x lv h => by simp at h⟩
theorem few_goes {xs : List Insn} (h : ∀ x ∈ xs, x.l.length ≤ 3) (k : Nat) : (goes xs k).length ≤ 4 := by
  cases hx : xs[k]? with
  | none => simp [goes, hx]
  | some x =>
    have h1 := goes_le _ _ x hx
    have h2 := h x (List.mem_of_getElem? hx)
    omega
theorem good_use {xs : List Insn} {at_ e : Int} (h : Good xs at_ e) : Small xs ∧ xs.length * 24 ≤ 140737488355328 ∧ 2 * loadAll xs * 8 ≤ 140737488355328 := by
  obtain ⟨_, _, h3, h4⟩ := h
  refine ⟨fun x hx => by have := h4 x hx; omega, by omega, ?_⟩
  have := load_le xs (few_goes h4) xs.length (List.replicate xs.length false)
  unfold loadAll
  omega
end Go.Proofs.Ytemanjljjlpbgaa
