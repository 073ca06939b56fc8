/- Layer 10: blocks: what they are; which are reached; what a search sweeps up -/
import Derived.Test.YtemanjljjlpbgaaL1
namespace Go.Proofs.Ytemanjljjlpbgaa
open Go Go.Sp
theorem small_op' {op : Int} (h0 : 0 ≤ op) (h1 : op ≤ 24) {φ : Int → Prop} (h : ∀ n : Fin 25, φ (n.val : Int)) : φ op := by
  have := h ⟨op.toNat, by omega⟩
  rwa [show ((op.toNat : Nat) : Int) = op by omega] at this
theorem isB_both (op : Int) : isB op 5 = (isB op 1 || isB op 4) := by
  by_cases h : 0 ≤ op ∧ op ≤ 24
  · exact small_op' (φ := fun op => isB op 5 = (isB op 1 || isB op 4)) h.1 h.2 (by decide)
  · have h2 : ∀ tr, isB op tr = false := fun tr => by
      unfold isB
      by_cases h0 : 0 ≤ op
      · have : ¬ op ≤ 24 := fun h1 => h ⟨h0, h1⟩
        simp [this]
      · simp [h0]
    rw [h2, h2, h2]; rfl
/-- A start, as it is in the end. -/
def isS (xs : List Insn) (k : Nat) : Bool := mkS xs xs.length (k : Int)
theorem mkS_up {xs : List Insn} {k : Int} : ∀ {n m : Nat}, n ≤ m → mkS xs n k = true → mkS xs m k = true := by
  intro n m h
  induction m with
  | zero => intro h1; obtain rfl : n = 0 := by omega
            exact h1
  | succ m ih =>
    intro h1
    by_cases hm : n = m + 1
    · subst hm; exact h1
    · simp only [mkS, Bool.or_eq_true]
      exact .inl (ih (by omega) h1)
theorem isS_zero (xs : List Insn) : isS xs 0 = true := mkS_up (n := 0) (Nat.zero_le _) (by simp [mkS])
theorem mem_starts {xs : List Insn} {k : Nat} : (k : Int) ∈ startsL xs ↔ k < xs.length ∧ isS xs k = true := by
  unfold startsL isS
  rw [stL_mem]
  constructor
  · rintro ⟨i, h1, h2, h3⟩
    obtain rfl : i = k := by omega
    exact ⟨h1, h3⟩
  · rintro ⟨h1, h2⟩
    exact ⟨k, h1, rfl, h2⟩
theorem starts_nat {xs : List Insn} {b : Nat} {s : Int} (h : (startsL xs)[b]? = some s) : ∃ k : Nat, s = (k : Int) ∧ k < xs.length ∧ isS xs k = true := by
  have hm := List.mem_of_getElem? h
  have hm2 := hm
  unfold startsL at hm2
  rw [stL_mem] at hm2
  obtain ⟨i, h1, rfl, h3⟩ := hm2
  exact ⟨i, rfl, h1, h3⟩
theorem starts_rise (xs : List Insn) : Rises (startsL xs) := stL_rises _ _
/-- Where no block begins behind it, an instruction goes on to the next one. -/
theorem goes_on {xs : List Insn} {i : Nat} (hi : i + 1 < xs.length) (hs : isS xs (i + 1) = false) : goes xs i = [((i + 1 : Nat) : Int)] := by
  obtain ⟨x, hx⟩ : ∃ x, xs[i]? = some x := ⟨_, List.getElem?_eq_getElem (by omega)⟩
  have h5 : isB x.op 5 = false := by
    cases h : isB x.op 5 with
    | false => rfl
    | true =>
      have h1 : mkS xs (i + 1) ((i + 1 : Nat) : Int) = true := by
        simp only [mkS, hx, h, Bool.or_eq_true, Bool.and_eq_true, decide_eq_true_eq]
        exact .inr (.inr ⟨⟨hi, trivial⟩, trivial⟩)
      have h2 := mkS_up (xs := xs) (show i + 1 ≤ xs.length by omega) h1
      unfold isS at hs
      rw [h2] at hs
      cases hs
  rw [isB_both, Bool.or_eq_false_iff] at h5
  simp [goes, hx, tgts, h5.2, closesB, h5.1]
theorem starts_pos {xs : List Insn} (h : 0 < xs.length) : (startsL xs)[0]? = some 0 := by
  have hm : ((0 : Nat) : Int) ∈ startsL xs := mem_starts.2 ⟨h, isS_zero xs⟩
  obtain ⟨j, hj, e⟩ := List.mem_iff_getElem.1 hm
  by_cases h0 : j = 0
  · subst h0
    rw [List.getElem?_eq_getElem hj, e]; rfl
  · have h1 : (startsL xs)[0]? = some ((startsL xs)[0]'(by omega)) := List.getElem?_eq_getElem (by omega)
    obtain ⟨k, e1, _, _⟩ := starts_nat h1
    have := starts_rise xs 0 j _ _ (by omega) h1 (List.getElem?_eq_getElem hj)
    rw [e, e1] at this
    omega
theorem below_start {xs : List Insn} {d : Nat} {s : Int} (h : (startsL xs)[d]? = some s) : below (startsL xs) s = d := by
  have hd := (List.getElem?_eq_some_iff.1 h).1
  refine (below_of (n := d) (by omega) (fun j t hj ht => starts_rise xs j d t s hj ht h) (fun j t hj ht => ?_)).symm
  by_cases he : j = d
  · subst he; rw [h] at ht; cases ht; exact Int.le_refl _
  · have := starts_rise xs d j s t (by omega) h ht
    omega
/-- Each place lies in a block. -/
theorem block_of {xs : List Insn} {i : Nat} (hi : i < xs.length) : ∃ (b s : Nat), (startsL xs)[b]? = some (s : Int) ∧ s ≤ i ∧ (i : Int) < endOf xs b := by
  have key : ∀ n, n ≤ i + 1 → 0 < n → ∃ (b s : Nat), (startsL xs)[b]? = some (s : Int) ∧ s < n ∧ ∀ (b' : Nat) (s' : Int), b < b' → (startsL xs)[b']? = some s' → (n : Int) ≤ s' := by
    intro n
    induction n with
    | zero => intro _ h; omega
    | succ n ih =>
      intro hn _
      by_cases hS : isS xs n = true
      · have hm : (n : Int) ∈ startsL xs := mem_starts.2 ⟨by omega, hS⟩
        obtain ⟨j, hj, e⟩ := List.mem_iff_getElem.1 hm
        have hg : (startsL xs)[j]? = some (n : Int) := by rw [List.getElem?_eq_getElem hj, e]
        refine ⟨j, n, hg, by omega, fun b' s' hb hs => ?_⟩
        have := starts_rise xs j b' _ _ hb hg hs
        omega
      · by_cases h0 : n = 0
        · subst h0; exact absurd (isS_zero xs) hS
        · obtain ⟨b, s, h1, h2, h3⟩ := ih (by omega) (by omega)
          refine ⟨b, s, h1, by omega, fun b' s' hb hs => ?_⟩
          have h4 := h3 b' s' hb hs
          obtain ⟨k, e, _, hk⟩ := starts_nat hs
          subst e
          by_cases he : k = n
          · subst he; exact absurd hk hS
          · omega
  obtain ⟨b, s, h1, h2, h3⟩ := key (i + 1) (Nat.le_refl _) (by omega)
  refine ⟨b, s, h1, by omega, ?_⟩
  unfold endOf
  split
  · rename_i e he
    have := h3 (b + 1) e (by omega) he
    omega
  · omega
/-- In a block, ahead of its last place, none begins. -/
theorem in_block {xs : List Insn} {b s i : Nat} (hb : (startsL xs)[b]? = some (s : Int)) (h1 : s ≤ i) (h2 : ((i + 1 : Nat) : Int) < endOf xs b) : i + 1 < xs.length ∧ isS xs (i + 1) = false := by
  have hlt : i + 1 < xs.length := by
    unfold endOf at h2
    split at h2
    · rename_i e he
      obtain ⟨k, e1, h3, _⟩ := starts_nat he
      omega
    · omega
  refine ⟨hlt, ?_⟩
  cases hS : isS xs (i + 1) with
  | false => rfl
  | true =>
    exfalso
    obtain ⟨j, hj, e⟩ := List.mem_iff_getElem.1 (mem_starts.2 ⟨hlt, hS⟩)
    have hg : (startsL xs)[j]? = some (((i + 1 : Nat)) : Int) := by rw [List.getElem?_eq_getElem hj, e]
    have hbj : b < j := by
      apply Nat.lt_of_not_le
      intro hle
      by_cases he : j = b
      · subst he; rw [hb] at hg; cases hg; omega
      · have := starts_rise xs j b _ _ (by omega) hg hb
        omega
    unfold endOf at h2
    split at h2
    · rename_i e2 he2
      by_cases he : j = b + 1
      · subst he; rw [hg] at he2; cases he2; omega
      · have := starts_rise xs (b + 1) j _ _ (by omega) he2 hg
        omega
    · rename_i he2
      have := (List.getElem?_eq_some_iff.1 hg).1
      rw [List.getElem?_eq_none_iff] at he2
      omega

/-! ### Which blocks are reached -/
def rsK : List (List Int) → Nat → List Bool → Nat → List Bool
  | _, _, rs, 0 => rs
  | [], _, rs, _ + 1 => rs
  | l :: ls, b, rs, k + 1 => rsK ls (b + 1) (l.foldl (markD b) rs) k
theorem deadF_spec : ∀ (ls : List (List Int)) (b : Nat) (rs : List Bool), (∃ k, k < ls.length ∧ 0 < b + k ∧ deadF ls b rs = ((b + k : Nat) : Int) ∧ ((rsK ls b rs k)[b + k]?).getD false = false) ∨
    (deadF ls b rs = 0 ∧ ∀ k, k < ls.length → 0 < b + k → ((rsK ls b rs k)[b + k]?).getD false = true)
  | [], b, rs => .inr ⟨rfl, fun k hk => by simp at hk⟩
  | l :: ls, b, rs => by
    simp only [deadF]
    split
    · rename_i h
      simp only [Bool.and_eq_true, decide_eq_true_eq, Bool.not_eq_true'] at h
      exact .inl ⟨0, by simp, by omega, rfl, h.2⟩
    · rename_i h
      rcases deadF_spec ls (b + 1) (l.foldl (markD b) rs) with ⟨k, h1, h2, h3, h4⟩ | ⟨h1, h2⟩
      · refine .inl ⟨k + 1, by simpa using h1, by omega, by rw [h3]; congr 1; omega, ?_⟩
        rw [show b + (k + 1) = b + 1 + k by omega]
        exact h4
      · refine .inr ⟨h1, fun k hk hp => ?_⟩
        cases k with
        | zero =>
          have h0 : 0 < b := by omega
          simp only [Bool.and_eq_true, decide_eq_true_eq, Bool.not_eq_true', not_and, Bool.not_eq_false] at h
          simpa [rsK] using h h0
        | succ k =>
          rw [show b + (k + 1) = b + 1 + k by omega]
          exact h2 k (by simpa using hk) (by omega)
theorem mark_get {b : Nat} : ∀ (l : List Int) (rs : List Bool) (t : Nat), (∀ z ∈ l, 0 ≤ z) → ((((l.foldl (markD b) rs)[t]?).getD false = true) ↔ ((rs[t]?).getD false = true ∨ (t < rs.length ∧ (t : Int) ∈ l ∧ b < t)))
  | [], rs, t, _ => by simp
  | z :: l, rs, t, h => by
    rw [List.foldl_cons, mark_get l (markD b rs z) t (fun y hy => h y (by simp [hy])), length_markD]
    have hz := h z (by simp)
    unfold markD
    by_cases ht : z.toNat = t
    · have hzt : z = (t : Int) := by omega
      by_cases hl : t < rs.length
      · rw [List.getElem?_set, if_pos ht, if_pos (by omega)]
        simp only [Option.getD_some, Bool.or_eq_true, decide_eq_true_eq, List.mem_cons, hzt]
        rw [show ((t : Int).toNat) = t by omega]
        constructor
        · rintro ((h1 | h1) | ⟨h1, h2, h3⟩)
          · exact .inl h1
          · exact .inr ⟨hl, .inl trivial, by omega⟩
          · exact .inr ⟨hl, .inr h2, h3⟩
        · rintro (h1 | ⟨_, _, h3⟩)
          · exact .inl (.inl h1)
          · exact .inl (.inr (by omega))
      · rw [List.getElem?_set, if_pos ht, if_neg (by omega)]
        simp [hl]
    · rw [List.getElem?_set_ne ht]
      have : ¬ (t : Int) = z := by omega
      simp [this]
theorem length_foldMark (b : Nat) : ∀ (l : List Int) (rs : List Bool), (l.foldl (markD b) rs).length = rs.length
  | [], _ => rfl
  | z :: l, rs => by rw [List.foldl_cons, length_foldMark b l, length_markD]
theorem rsK_get : ∀ (ls : List (List Int)) (b : Nat) (rs : List Bool) (k t : Nat), (∀ l ∈ ls, ∀ z ∈ l, 0 ≤ z) → ((((rsK ls b rs k)[t]?).getD false = true) ↔ ((rs[t]?).getD false = true ∨ (t < rs.length ∧ ∃ j l, j < k ∧ ls[j]? = some l ∧ (t : Int) ∈ l ∧ b + j < t)))
  | ls, b, rs, 0, t, _ => by cases ls <;> simp [rsK]
  | [], b, rs, k + 1, t, _ => by simp [rsK]
  | l :: ls, b, rs, k + 1, t, h => by
    simp only [rsK]
    rw [rsK_get ls (b + 1) _ k t (fun m hm => h m (by simp [hm])), mark_get l rs t (h l (by simp)), length_foldMark]
    constructor
    · rintro ((h1 | ⟨h1, h2, h3⟩) | ⟨h1, j, m, h2, h3, h4, h5⟩)
      · exact .inl h1
      · exact .inr ⟨h1, 0, l, by omega, rfl, h2, by omega⟩
      · exact .inr ⟨h1, j + 1, m, by omega, by simpa using h3, h4, by omega⟩
    · rintro (h1 | ⟨h1, j, m, h2, h3, h4, h5⟩)
      · exact .inl (.inl h1)
      · cases j with
        | zero => simp at h3; subst h3; exact .inl (.inr ⟨h1, h4, by omega⟩)
        | succ j => exact .inr ⟨h1, j, m, by omega, by simpa using h3, h4, by omega⟩
/-- The first dead block: none ahead of it goes there. -/
theorem dead_none {nx : List (List Int)} (hz : ∀ l ∈ nx, ∀ z ∈ l, 0 ≤ z) (h : 0 < deadB nx) : ∃ d : Nat, deadB nx = (d : Int) ∧ 0 < d ∧ d < nx.length ∧ ∀ (a : Nat) (l : List Int), a < d → nx[a]? = some l → (d : Int) ∉ l := by
  unfold deadB at h ⊢
  rcases deadF_spec nx 0 (List.replicate nx.length false) with ⟨k, h1, h2, h3, h4⟩ | ⟨h1, _⟩
  · refine ⟨k, by rw [h3]; congr 1; omega, by omega, h1, fun a l ha hl hm => ?_⟩
    have h5 := (rsK_get nx 0 (List.replicate nx.length false) k k hz).2 (.inr ⟨by simpa using h1, a, l, ha, hl, hm, by omega⟩)
    rw [Nat.zero_add] at h4
    rw [h4] at h5
    cases h5
  · omega
/-- Where there is none, each block but the first one is gone to from one ahead of it. -/
theorem dead_all {nx : List (List Int)} (hz : ∀ l ∈ nx, ∀ z ∈ l, 0 ≤ z) (h : ¬ 0 < deadB nx) (d : Nat) (hd : 0 < d) (hl : d < nx.length) : ∃ (a : Nat) (l : List Int), a < d ∧ nx[a]? = some l ∧ (d : Int) ∈ l := by
  unfold deadB at h
  rcases deadF_spec nx 0 (List.replicate nx.length false) with ⟨k, h1, h2, h3, h4⟩ | ⟨_, h2⟩
  · omega
  · have h3 := h2 d hl (by omega)
    rw [Nat.zero_add] at h3
    rcases (rsK_get nx 0 (List.replicate nx.length false) d d hz).1 h3 with h4 | ⟨_, j, l, h5, h6, h7, h8⟩
    · simp [List.getElem?_replicate, hl] at h4
    · exact ⟨j, l, h5, h6, h7⟩
theorem nexts_nat {xs : List Insn} : ∀ l ∈ nextsL xs, ∀ z ∈ l, 0 ≤ z := by
  intro l hl t ht
  simp only [nextsL, List.mem_map, List.mem_range] at hl
  obtain ⟨b, hb, rfl⟩ := hl
  simp only [nextOf, List.mem_map] at ht
  obtain ⟨u, hu, rfl⟩ := ht
  omega
theorem nexts_at {xs : List Insn} {b : Nat} (hb : b < (startsL xs).length) : (nextsL xs)[b]? = some (nextOf xs b) := by simp [nextsL, hb]
/-- What is told of ErrDead: nobody ahead of the place goes there. -/
theorem dead_told {xs : List Insn} (h : 0 < deadB (nextsL xs)) : ∃ s : Nat, ((startsL xs)[(deadB (nextsL xs)).toNat]?).getD 0 = (s : Int) ∧ 0 < s ∧ s < xs.length ∧ ∀ i, i < s → ((s : Nat) : Int) ∉ goes xs i := by
  obtain ⟨d, h1, h2, h3, h4⟩ := dead_none nexts_nat h
  have hl : (nextsL xs).length = (startsL xs).length := by simp [nextsL]
  have hg : (startsL xs)[d]? = some ((startsL xs)[d]'(by omega)) := List.getElem?_eq_getElem (by omega)
  obtain ⟨s, e, h5, h6⟩ := starts_nat hg
  rw [e] at hg
  have hpos := starts_pos (xs := xs) (by omega)
  have hs0 : 0 < s := by
    have := starts_rise xs 0 d _ _ h2 hpos hg
    omega
  refine ⟨s, by rw [h1]; simp [hg], hs0, h5, fun i hi hm => ?_⟩
  obtain ⟨b, sb, h7, h8, h9⟩ := block_of (show i < xs.length by omega)
  have hbl := (List.getElem?_eq_some_iff.1 h7).1
  have hbd : b < d := by
    apply Nat.lt_of_not_le
    intro hle
    by_cases he : b = d
    · subst he; rw [hg] at h7; cases h7; omega
    · have := starts_rise xs d b _ _ (by omega) hg h7
      omega
  by_cases hlast : ((i + 1 : Nat) : Int) < endOf xs b
  · obtain ⟨h10, h11⟩ := in_block h7 h8 hlast
    rw [goes_on h10 h11] at hm
    simp at hm
    have : s = i + 1 := by omega
    subst this
    rw [h6] at h11
    cases h11
  · obtain ⟨x, hx, he⟩ := last_ok hbl
    have hli : lastOf xs b = i := by omega
    refine h4 b (nextOf xs b) hbd (nexts_at hbl) ?_
    unfold nextOf
    rw [hli, List.mem_map]
    exact ⟨(s : Int), hm, by rw [below_start hg]⟩
end Go.Proofs.Ytemanjljjlpbgaa
