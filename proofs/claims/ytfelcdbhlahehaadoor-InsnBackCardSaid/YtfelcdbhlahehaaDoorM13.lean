/- Layer 3: the plain law of sections. -/
import Derived.Test.YtfelcdbhlahehaaDoorM4
import Derived.Test.YtfelcdbhlahehaaDoorM8
import Derived.Test.YtfelcdbhlahehaaDoorM11
import Derived.Test.YtfelcdbhlahehaaDoorM10
import Derived.Test.YtfelcdbhlahehaaDoorM12
namespace Go.Proofs.YtfelcdbhlahehaaDoor
open Go Go.Sp
theorem grab_ne {k : Nat} {bs ts r : List UInt8} (h : grab (k + 1) bs = some (ts, r)) : ts ≠ [] := by
  cases bs with
  | nil => simp [grab] at h
  | cons b bs =>
    simp only [grab] at h
    split at h
    · cases h; simp
    · cases hg : grab k bs with
      | none => rw [hg] at h; simp at h
      | some x => rw [hg] at h; simp at h; rw [← h.1]; simp
theorem not_wrong {ts : List UInt8} (h : wrongL ts = false) : lastN ts < 128 ∧ (1 < ts.length → lastN ts ≠ 0) := by
  simp only [wrongL, Bool.or_eq_false_iff, Bool.and_eq_false_iff, decide_eq_false_iff_not] at h
  exact ⟨by omega, fun hl => by rcases h.2 with h2 | h2 <;> omega⟩
/-- What is read without a fault are a number's own bytes. -/
theorem uA_inv {bs : List UInt8} {pl : Int} (h : (uA bs pl).c = 0) : bs = encU (uA bs pl).n ++ (uA bs pl).rest ∧ (uA bs pl).pl = pl + (encU (uA bs pl).n).length := by
  unfold uA at h ⊢
  split at h
  · simp at h
  · rename_i ts r hg
    split at h
    · simp at h
    · rename_i hw
      have h0 := (grab_some _ _ _ _ hg).1
      have h1 := not_wrong (by simpa using hw)
      have h2 := (enc_val 10 bs ts r hg (grab_ne hg) h1.1 h1.2).1
      rw [if_neg hw]
      simp only [h2]
      exact ⟨h0, trivial⟩
end Go.Proofs.YtfelcdbhlahehaaDoor

/- Layer 9: the plain law: instructions come back from their bytes. -/
namespace Go.Proofs.YtfelcdbhlahehaaDoor
open Go Go.Sp
theorem sm_lay {m : Nat} {most : Int} (h : (m : Int) ≤ most) (hm : m < 18446744073709551616) (r : List UInt8) (pl : Int) : smA (encU m ++ r) pl most = (m, 0, 0) ∧ (uA (encU m ++ r) pl).rest = r ∧ (uA (encU m ++ r) pl).pl = pl + (encU m).length := by
  have hu := uA_enc hm r pl
  refine ⟨?_, by rw [hu], by rw [hu]⟩
  unfold smA
  rw [hu]
  simp only [ne_eq, not_true_eq_false, if_false]
  rw [if_neg (by omega)]
theorem small_lay {m : Nat} {most : Int} (h : (m : Int) ≤ most) (hm : m < 18446744073709551616) (k : Nat → RK) (r : List UInt8) (pl : Int) : smallK most k (encU m ++ r) pl = k m r (pl + (encU m).length) := by
  obtain ⟨h1, h2, h3⟩ := sm_lay h hm r pl
  unfold smallK
  rw [h1, h2, h3]
  rfl
theorem opt_lay {m n : Int} (h : inP n m) (h1 : -1 ≤ m) (hn : n ≤ 1000) (k : Int → RK) (r : List UInt8) (pl : Int) : optK m k (optL m n ++ r) pl = k n r (pl + (optL m n).length) := by
  unfold inP at h
  by_cases hm : m = -1
  · rw [optK_none hm, optL_none hm]
    obtain rfl : n = 0 := by omega
    simp
  · obtain ⟨z, rfl⟩ := Int.eq_ofNat_of_zero_le h.1
    rw [optK_some hm, optL_some hm, small_lay (by omega) (by omega)]
theorem list_lay {m : Int} (hm : m ≤ 1000) (k : List Nat → RK) : ∀ (l : List Int) (acc : List Nat) (r : List UInt8) (pl : Int), (∀ z ∈ l, 0 ≤ z ∧ z ≤ m) → listK l.length m acc k (l.flatMap encI ++ r) pl = k (acc ++ l.map Int.toNat) r (pl + (l.flatMap encI).length) := by
  intro l
  induction l with
  | nil => intro acc r pl _; simp [listK]
  | cons z l ih =>
    intro acc r pl h
    have hz := h z (by simp)
    rw [List.length_cons, listK_succ, List.flatMap_cons, List.append_assoc, show encI z = encU z.toNat from rfl, small_lay (by omega) (by omega), ih _ _ _ (fun y hy => h y (by simp [hy]))]
    simp only [List.map_cons, List.append_assoc, List.singleton_append, List.length_append]
    congr 1
    push_cast
    omega
theorem natI_toNat {l : List Int} (h : ∀ z ∈ l, 0 ≤ z) : natI (l.map Int.toNat) = l := by
  induction l with
  | nil => rfl
  | cons z l ih =>
    have h1 := ih (fun y hy => h y (by simp [hy]))
    have h2 := h z (by simp)
    unfold natI at h1 ⊢
    simp only [List.map_cons, List.cons.injEq]
    exact ⟨by omega, h1⟩
theorem row_low {n : Nat} (h : n ≤ 24) : -1 ≤ (rowOf n).1.b ∧ -1 ≤ (rowOf n).1.c ∧ -1 ≤ (rowOf n).1.d := by
  match n, h with
  | 0, _ | 1, _ | 2, _ | 3, _ | 4, _ | 5, _ | 6, _ | 7, _ | 8, _ | 9, _ | 10, _ | 11, _ | 12, _ | 13, _ | 14, _ | 15, _ | 16, _ | 17, _ | 18, _ | 19, _ | 20, _ | 21, _ | 22, _ | 23, _ | 24, _ => exact ⟨by decide, by decide, by decide⟩
  | k + 25, h => omega
/-- The text behind the op. -/
def tailL (r : Row) (x : Ins) : List UInt8 := optL r.b x.b ++ (optL r.c x.c ++ (optL r.d x.d ++ ((if (r.least : Int) < (r.most : Int) then encU x.l.length else []) ++ x.l.flatMap encI)))
theorem bytes_tail {n : Nat} {x : Ins} (h : n ≤ 24) (hx : x.op = (n : Int)) (h1 : n ≠ 1) (hl : x.l.length ≤ (rowOf n).1.most) : bytesL (rowOf n) x = UInt8.ofNat n :: tailL (rowOf n).1 x := by
  rw [bytes_of h hx h1 hl]
  simp [tailL]
theorem okL_all {un : Bool} {rl : Int} {l : List Int} (h : okL un rl l) : ∀ z ∈ l, 0 ≤ z ∧ z ≤ rl := fun z hz => by
  obtain ⟨i, hi, rfl⟩ := List.mem_iff_getElem.1 hz
  exact (h i hi _ (List.getElem?_eq_getElem hi)).2
theorem many_lay {r : Row} {l : List Int} (h1 : r.least ≤ l.length) (h2 : l.length ≤ r.most) (h3 : r.l ≤ 1000) (h4 : r.most ≤ 8) (h : ∀ z ∈ l, 0 ≤ z ∧ z ≤ r.l) (k : List Nat → RK) (rest : List UInt8) (pl : Int) :
    manyK r k ((if (r.least : Int) < (r.most : Int) then encU l.length else []) ++ (l.flatMap encI ++ rest)) pl = k (l.map Int.toNat) rest (pl + ((if (r.least : Int) < (r.most : Int) then encU l.length else []) ++ l.flatMap encI).length) := by
  by_cases hlm : (r.least : Int) < (r.most : Int)
  · rw [manyK_lt hlm, if_pos hlm, small_lay (by omega) (by omega), list_lay h3 _ _ _ _ _ h]
    simp only [List.nil_append, List.length_append]
    congr 1
    push_cast
    omega
  · rw [manyK_ge hlm, if_neg hlm, show r.least = l.length from by omega, List.nil_append, list_lay h3 _ _ _ _ _ h]
    simp
theorem oper_lay {n : Nat} {x : Ins} (h24 : n ≤ 24) (hx : x.op = (n : Int)) (h1 : n ≠ 1) (hf : fitsP (rowOf n).1 x) (rest : List UInt8) (pl : Int) : operK (rowOf n).1 n (tailL (rowOf n).1 x ++ rest) pl = ⟨x, 0, 0, rest, pl + (tailL (rowOf n).1 x).length⟩ := by
  obtain ⟨⟨f0, f1, f2⟩, ⟨f3, f4, f5⟩, f6, f7⟩ := hf
  obtain ⟨b1, b2, b3, b4⟩ := row_small h24
  obtain ⟨b5, b6⟩ := row_few h24
  obtain ⟨b7, b8, b9⟩ := row_low h24
  have hall := okL_all f7
  have ha : x.a = 0 := f0.resolve_left (by rw [row_whole h24 h1]; decide)
  unfold operK
  rw [if_neg (by rw [row_whole h24 h1]; decide)]
  unfold tailL
  simp only [List.append_assoc]
  have i1 := (in_bound f3 b1).2
  have i2 := (in_bound f4 b2).2
  have i3 := (in_bound f5 b3).2
  rw [opt_lay f3 b7 i1, opt_lay f4 b8 i2, opt_lay f5 b9 i3, many_lay f1 f2 b4 b5 hall]
  unfold finK
  rw [natI_toNat (fun z hz => (hall z hz).1)]
  rcases x with ⟨op, a, b, c, d, l⟩
  dsimp only at *
  subst hx ha
  simp only [RdR.mk.injEq, true_and, List.length_append]
  push_cast
  omega
/-- Instructions come back. -/
theorem read_lay {n : Nat} {x : Ins} (h24 : n ≤ 24) (hx : x.op = (n : Int)) (hf : fitsP (rowOf n).1 x) (ha : -9223372036854775808 ≤ x.a ∧ x.a ≤ 9223372036854775807) (rest : List UInt8) (pl : Int) : readR (bytesL (rowOf n) x ++ rest) pl = ⟨x, 0, 0, rest, pl + (bytesL (rowOf n) x).length⟩ := by
  have ho : (UInt8.ofNat n).toNat = n := toNat_of (by omega)
  by_cases h1 : n = 1
  · subst h1
    have hl := hf.1.2.2
    rw [bytes_one hx hl]
    simp only [List.cons_append, List.nil_append]
    rw [read_cons, ho, if_neg (by decide)]
    have he : operK (rowOf 1).1 1 (encU (foldZ x.a) ++ rest) (pl + 1) = ⟨x, 0, 0, rest, pl + (1 + (encU (foldZ x.a)).length)⟩ := by
      rw [show (rowOf 1).1 = ⟨true, -1, -1, -1, -1, 0, 0, false⟩ from rfl, op_S, uA_enc (fold_lt ha)]
      simp only [ne_eq, not_true_eq_false, if_false, unfold_fold]
      obtain ⟨_, ⟨g1, g2, g3⟩, _, _⟩ := hf
      rcases x with ⟨op, a, b, c, d, l⟩
      simp only [rowOf, inP] at *
      obtain rfl : l = [] := List.length_eq_zero_iff.1 (by omega)
      obtain rfl : b = 0 := by omega
      obtain rfl : c = 0 := by omega
      obtain rfl : d = 0 := by omega
      subst hx
      simp only [RdR.mk.injEq, true_and]
      omega
    rw [he]
    simp only [ne_eq, not_true_eq_false, if_false]
    rw [if_pos (bP_t hf).symm]
    simp only [List.length_cons]
    congr 1
    push_cast
    omega
  · rw [bytes_tail h24 hx h1 hf.1.2.2, List.cons_append, read_cons, ho, if_neg (by omega), oper_lay h24 hx h1 hf]
    simp only [ne_eq, not_true_eq_false, if_false]
    rw [if_pos (bP_t hf).symm]
    simp only [List.length_cons]
    congr 1
    push_cast
    omega
end Go.Proofs.YtfelcdbhlahehaaDoor

/- Layer 9: the plain law: what is read is laid again; no beginning of an instruction is one. -/
namespace Go.Proofs.YtfelcdbhlahehaaDoor
open Go Go.Sp
theorem small_inv {most : Int} {k : Nat → RK} {bs : List UInt8} {pl : Int} (h : (smallK most k bs pl).c = 0) : ∃ (m : Nat) (rest : List UInt8) (pl' : Int), (m : Int) ≤ most ∧ bs = encU m ++ rest ∧ smallK most k bs pl = k m rest pl' := by
  unfold smallK at h ⊢
  split at h
  · rename_i h1; exact absurd h h1
  · rename_i h1
    rw [if_neg h1]
    have h2 : (smA bs pl most).2.1 = 0 := Classical.not_not.1 h1
    have hc : (uA bs pl).c = 0 := by
      apply Classical.byContradiction
      intro hc
      exact h1 (by unfold smA; rw [if_pos hc]; exact hc)
    have hn : (smA bs pl most).1 = (uA bs pl).n := by
      unfold smA at h2 ⊢
      rw [if_neg (by simpa using hc)] at h2 ⊢
      split at h2
      · simp at h2
      · rename_i h3; rw [if_neg h3]
    refine ⟨(smA bs pl most).1, _, _, sm_le h2, ?_, rfl⟩
    rw [hn]
    exact (uA_inv hc).1
theorem opt_inv {m : Int} {k : Int → RK} {bs : List UInt8} {pl : Int} (h : (optK m k bs pl).c = 0) : ∃ (n : Int) (rest : List UInt8) (pl' : Int), inP n m ∧ bs = optL m n ++ rest ∧ optK m k bs pl = k n rest pl' := by
  by_cases hm : m = -1
  · rw [optK_none hm] at h ⊢
    exact ⟨0, bs, pl, by unfold inP; omega, by rw [optL_none hm]; rfl, rfl⟩
  · rw [optK_some hm] at h ⊢
    obtain ⟨z, rest, pl', h1, h2, h3⟩ := small_inv h
    exact ⟨(z : Int), rest, pl', by unfold inP; omega, by rw [optL_some hm]; exact h2, h3⟩
theorem list_inv {m : Int} {k : List Nat → RK} : ∀ (n : Nat) (acc : List Nat) (bs : List UInt8) (pl : Int), (listK n m acc k bs pl).c = 0 → ∃ (l : List Nat) (rest : List UInt8) (pl' : Int), l.length = n ∧ (∀ z ∈ l, (z : Int) ≤ m) ∧ bs = (natI l).flatMap encI ++ rest ∧ listK n m acc k bs pl = k (acc ++ l) rest pl' := by
  intro n
  induction n with
  | zero => intro acc bs pl h; exact ⟨[], bs, pl, rfl, by simp, by simp [natI], by simp [listK]⟩
  | succ n ih =>
    intro acc bs pl h
    rw [listK_succ] at h ⊢
    obtain ⟨z, r1, p1, h1, h2, h3⟩ := small_inv h
    rw [h3] at h
    obtain ⟨l, r2, p2, g1, g2, g3, g4⟩ := ih _ _ _ h
    refine ⟨z :: l, r2, p2, by simp [g1], ?_, ?_, ?_⟩
    · intro y hy
      simp only [List.mem_cons] at hy
      rcases hy with rfl | hy
      · exact h1
      · exact g2 y hy
    · rw [h2, g3]
      simp [natI, encI]
    · rw [h3, g4]
      simp
theorem many_inv {r : Row} {k : List Nat → RK} {bs : List UInt8} {pl : Int} (hr : r.least ≤ r.most) (h : (manyK r k bs pl).c = 0) : ∃ (l : List Nat) (rest : List UInt8) (pl' : Int), r.least ≤ l.length + (if (r.least : Int) < (r.most : Int) then r.least else 0) ∧ l.length ≤ r.most ∧ (∀ z ∈ l, (z : Int) ≤ r.l) ∧ bs = (if (r.least : Int) < (r.most : Int) then encU l.length else []) ++ ((natI l).flatMap encI ++ rest) ∧ manyK r k bs pl = k l rest pl' := by
  by_cases hlm : (r.least : Int) < (r.most : Int)
  · rw [manyK_lt hlm] at h ⊢
    obtain ⟨m, r1, p1, h1, h2, h3⟩ := small_inv h
    rw [h3] at h
    obtain ⟨l, r2, p2, g1, g2, g3, g4⟩ := list_inv _ _ _ _ h
    subst g1
    exact ⟨l, r2, p2, by rw [if_pos hlm]; omega, by omega, g2, by rw [if_pos hlm, h2, g3], by rw [h3, g4]; simp⟩
  · rw [manyK_ge hlm] at h ⊢
    obtain ⟨l, r2, p2, g1, g2, g3, g4⟩ := list_inv _ _ _ _ h
    exact ⟨l, r2, p2, by omega, by omega, g2, by rw [if_neg hlm, g3]; rfl, by rw [g4]; simp⟩
theorem row_order {n : Nat} (h : n ≤ 24) : (rowOf n).1.least ≤ (rowOf n).1.most := by
  match n, h with
  | 0, _ | 1, _ | 2, _ | 3, _ | 4, _ | 5, _ | 6, _ | 7, _ | 8, _ | 9, _ | 10, _ | 11, _ | 12, _ | 13, _ | 14, _ | 15, _ | 16, _ | 17, _ | 18, _ | 19, _ | 20, _ | 21, _ | 22, _ | 23, _ | 24, _ => decide
  | k + 25, h => omega
theorem fold_unfold (n : Nat) : foldZ (unfoldZ n) = n := by
  unfold foldZ unfoldZ
  split <;> split <;> omega
theorem oper_inv {n : Nat} (h24 : n ≤ 24) (h1 : n ≠ 1) {bs : List UInt8} {pl : Int} (h : (operK (rowOf n).1 n bs pl).c = 0) : (operK (rowOf n).1 n bs pl).x.op = n ∧ (operK (rowOf n).1 n bs pl).x.a = 0 ∧ (operK (rowOf n).1 n bs pl).x.l.length ≤ (rowOf n).1.most ∧ bs = tailL (rowOf n).1 (operK (rowOf n).1 n bs pl).x ++ (operK (rowOf n).1 n bs pl).bs := by
  unfold operK at h ⊢
  rw [if_neg (by rw [row_whole h24 h1]; decide)] at h ⊢
  obtain ⟨b, r1, p1, a1, a2, a3⟩ := opt_inv h
  rw [a3] at h ⊢
  obtain ⟨c, r2, p2, b1, b2, b3⟩ := opt_inv h
  rw [b3] at h ⊢
  obtain ⟨d, r3, p3, c1, c2, c3⟩ := opt_inv h
  rw [c3] at h ⊢
  obtain ⟨l, r4, p4, d1, d2, d3, d4, d5⟩ := many_inv (row_order h24) h
  rw [d5]
  unfold finK tailL
  have hl : (natI l).length = l.length := natI_len
  refine ⟨rfl, rfl, by rw [hl]; exact d2, ?_⟩
  simp only [hl]
  rw [a2, b2, c2, d4]
  simp
/-- What is read are an instruction's own bytes. -/
theorem read_inv {bs : List UInt8} {pl : Int} (h : (readR bs pl).c = 0) : ∃ n : Nat, n ≤ 24 ∧ (readR bs pl).x.op = (n : Int) ∧ fitsP (rowOf n).1 (readR bs pl).x ∧ (-9223372036854775808 ≤ (readR bs pl).x.a ∧ (readR bs pl).x.a ≤ 9223372036854775807) ∧ bs = bytesL (rowOf n) (readR bs pl).x ++ (readR bs pl).bs := by
  cases bs with
  | nil => simp [read_nil, errR] at h
  | cons o t =>
    rw [read_cons] at h ⊢
    split at h
    · simp [errR] at h
    · rename_i h24
      split at h
      · rename_i h1; exact absurd h h1
      · rename_i h1
        split at h
        · rename_i h2
          rw [if_neg h24, if_neg h1, if_pos h2]
          have hc : (operK (rowOf o.toNat).1 o.toNat t (pl + 1)).c = 0 := h
          have hf : fitsP (rowOf o.toNat).1 (operK (rowOf o.toNat).1 o.toNat t (pl + 1)).x := by simpa [bP] using h2
          have ho : UInt8.ofNat o.toNat = o := by simp
          by_cases hn : o.toNat = 1
          · refine ⟨1, by decide, ?_⟩
            rw [hn] at hc hf ⊢
            rw [show (rowOf 1).1 = ⟨true, -1, -1, -1, -1, 0, 0, false⟩ from rfl, op_S] at hc ⊢
            have hf' := hf
            rw [show (rowOf 1).1 = ⟨true, -1, -1, -1, -1, 0, 0, false⟩ from rfl, op_S] at hf'
            split at hc
            · rename_i h3; exact absurd hc h3
            · rename_i h3
              rw [if_neg h3] at hf' ⊢
              have hu := uA_inv (Classical.not_not.1 h3)
              have hi := unfold_in (uA_ok t (pl + 1)).1
              refine ⟨rfl, hf', hi, ?_⟩
              rw [bytes_one rfl (by simp), fold_unfold]
              rw [show [UInt8.ofNat 1] = [o] from by rw [← ho, hn]]
              simp only [List.cons_append, List.nil_append]
              rw [← hu.1]
          · obtain ⟨g1, g2, g3, g4⟩ := oper_inv (by omega) hn hc
            refine ⟨o.toNat, by omega, g1, hf, by omega, ?_⟩
            rw [bytes_tail (by omega) g1 hn g3, List.cons_append, ← g4, ho]
        · simp [errR] at h
/-! ### Beginnings -/
def PP (p t : List UInt8) : Prop := ∃ r, r ≠ [] ∧ t = p ++ r
end Go.Proofs.YtfelcdbhlahehaaDoor

/- Calls' results weakened; literals of rows as frozen rows. -/
namespace Go.Sp
open Go.RowKit
section
variable {P : Program} {N : Nat} {rd : Option Nat} {E : Env} {D : List Deferred} {L : List HP} {Q : Post}
theorem JO_weak {o : Oper} {next next' : Env → List Deferred → List HP → Prop} (h : JO P N rd o E D L next Q) (hc : ∀ E' D' L', next E' D' L' → ∃ L'', Ent L' L'' ∧ next' E' D' L'') : JO P N rd o E D L next' Q := fun F a w hr hs nx hnx =>
  h F a w hr hs nx (fun _ _ _ _ _ hn hr' hs' => let ⟨_, he, hn'⟩ := hc _ _ _ hn; hnx _ _ _ _ _ hn' hr' (he F _ hs'))
variable {d : Option Nat} {ty : TypeId} {pos : String} {after : Array Edge} {g : Option (Nat × Bool)} {next : Env → List Deferred → List HP → Prop}
theorem ent_own {r e sz n cap : Nat} {cs : List Value} {L : List HP} (h0 : cs.length = n * sz) (h1 : n ≤ cap) (h2 : cap ≤ maxLen) (h3 : cs.length = cap * sz) : Ent (pt r (.cells cs.toArray e (0, 0)) :: L) (OwnS e sz (.slice (some ⟨r, 0, none⟩) n cap) n cs :: L) := fun F w hs => by
  have h4 : Sat w (pt r (.cells (cs ++ []).toArray e (0, 0)) :: F :: L) := by rw [List.append_nil]; exact hs.swap
  exact (Sat.own_block h4 h0 h1 h2 (by simpa using h3)).swap
theorem ent_freeze {e sz n : Nat} {v : Value} {cs : List Value} {L : List HP} : Ent (OwnS e sz v n cs :: L) (Vw sz v n cs :: L) := fun _ _ hs => hs.swap.own_freeze.swap
/-- A literal row of ints, frozen. -/
theorem JO_buildV (l : List Int) {t e : TypeId} [TU P t (.slice e)] {z : Value} {k : Nat} [TI P e z 1 k] {len : Nat} {parts : Array (Nat × Operand)} {xs : List Operand} {vs cs : List Value}
    (hp : inOrder parts.toList 0 = some xs) (hx : evs E xs = some vs) [hc : Cat vs 1 cs] (hl : vs.length = len) (he : cs = ints l) (hlen : len = l.length) (hb : len * 1 ≤ 16777216) (hd : dok N d = true)
    (h : ∀ r, next (put E d (.slice (some ⟨r, 0, none⟩) l.length l.length)) D (Vw 1 (.slice (some ⟨r, 0, none⟩) l.length l.length) l.length (ints l) :: L)) :
    JO P N rd ⟨d, .buildSlice t len parts, ty, pos, after, g⟩ E D L next Q := by
  subst hlen
  refine JO_weak (next := fun E' D' L' => ∃ r, E' = put E d (.slice (some ⟨r, 0, none⟩) l.length l.length) ∧ D' = D ∧ L' = pt r (.cells cs.toArray e (0, 0)) :: L) (JO_buildSlice (n := 1) hp hx hl hb hd (fun r => ⟨r, rfl, rfl, rfl⟩)) ?_
  rintro E' D' L' ⟨r, rfl, rfl, rfl⟩
  refine ⟨_, ?_, h r⟩
  rw [he]
  exact (ent_own (sz := 1) (by simp [ints]) (Nat.le_refl _) (Nat.le_trans (show l.length ≤ 16777216 by omega) (by decide)) (by simp [ints])).trans ent_freeze
end
end Go.Sp

/- Layer 9: is, fails, the chapter's examples. -/
namespace Go.Proofs.YtfelcdbhlahehaaDoor
open Go Go.Sp
/-! ### What fits, decided -/
def okD (un : Bool) (rl : Int) : List Int → List Int → Bool
  | _, [] => true
  | pre, n :: l => (!un || !pre.contains n) && decide (0 ≤ n) && decide (n ≤ rl) && okD un rl (pre ++ [n]) l
theorem okD_iff (un : Bool) (rl : Int) : ∀ (l pre : List Int), okD un rl pre l = true ↔ ∀ i, i < l.length → ∀ n, l[i]? = some n → (un = true → (∀ j, j < i → l[j]? ≠ some n) ∧ n ∉ pre) ∧ 0 ≤ n ∧ n ≤ rl := by
  intro l
  induction l with
  | nil => intro pre; simp [okD]
  | cons m l ih =>
    intro pre
    simp only [okD, Bool.and_eq_true, decide_eq_true_eq, ih]
    constructor
    · rintro ⟨⟨⟨h1, h2⟩, h3⟩, h4⟩ i hi n hn
      cases i with
      | zero =>
        simp only [List.getElem?_cons_zero, Option.some.injEq] at hn
        subst hn
        refine ⟨fun hu => ⟨fun j hj => absurd hj (by omega), ?_⟩, h2, h3⟩
        subst hu
        simpa using h1
      | succ i =>
        simp only [List.getElem?_cons_succ] at hn
        obtain ⟨g1, g2⟩ := h4 i (by simpa using hi) n hn
        refine ⟨fun hu => ⟨fun j hj => ?_, fun hm => (g1 hu).2 (by simp [hm])⟩, g2⟩
        cases j with
        | zero =>
          simp only [List.getElem?_cons_zero, ne_eq, Option.some.injEq]
          intro he
          exact (g1 hu).2 (by simp [he])
        | succ j =>
          simp only [List.getElem?_cons_succ]
          exact (g1 hu).1 j (by omega)
    · intro h
      have h0 := h 0 (by simp) m (by simp)
      refine ⟨⟨⟨?_, h0.2.1⟩, h0.2.2⟩, fun i hi n hn => ?_⟩
      · cases un with
        | false => rfl
        | true => simpa using (h0.1 rfl).2
      · obtain ⟨g1, g2⟩ := h (i + 1) (by simpa using hi) n (by simpa using hn)
        refine ⟨fun hu => ⟨fun j hj => ?_, fun hm => ?_⟩, g2⟩
        · have := (g1 hu).1 (j + 1) (by omega)
          simpa using this
        · rw [List.mem_append, List.mem_singleton] at hm
          rcases hm with hm | hm
          · exact (g1 hu).2 hm
          · subst hm
            exact (g1 hu).1 0 (by omega) (by simp)
def inD (n m : Int) : Bool := decide (0 ≤ n) && decide (n ≤ max m 0)
def fitsD (r : Row) (x : Ins) : Bool := (r.whole || decide (x.a = 0)) && decide (r.least ≤ x.l.length) && decide (x.l.length ≤ r.most) && inD x.b r.b && inD x.c r.c && inD x.d r.d && (!r.unlike || decide (r.c = -1) || !decide (x.b = x.c)) && okD r.unlike r.l [] x.l
theorem fits_iff {r : Row} {x : Ins} : fitsD r x = true ↔ fitsP r x := by
  unfold fitsD fitsP headP pairP inP okL okAt inD
  simp only [Bool.and_eq_true, Bool.or_eq_true, decide_eq_true_eq, okD_iff, Bool.not_eq_true', decide_eq_false_iff_not, List.not_mem_nil, not_false_eq_true, and_true]
  constructor
  · rintro ⟨⟨⟨⟨⟨⟨⟨h1, h2⟩, h3⟩, h4⟩, h5⟩, h6⟩, h7⟩, h8⟩
    exact ⟨⟨h1, h2, h3⟩, ⟨h4, h5, h6⟩, by rcases h7 with (h | h) | h <;> simp [h], h8⟩
  · rintro ⟨⟨h1, h2, h3⟩, ⟨h4, h5, h6⟩, h7, h8⟩
    exact ⟨⟨⟨⟨⟨⟨⟨h1, h2⟩, h3⟩, h4⟩, h5⟩, h6⟩, by rcases h7 with h | h | h <;> simp [h]⟩, h8⟩
theorem fits_t {r : Row} {x : Ins} (h : fitsD r x = true) : fitsP r x := fits_iff.1 h
theorem fits_f {r : Row} {x : Ins} (h : fitsD r x = false) : ¬ fitsP r x := fun hf => by rw [fits_iff.2 hf] at h; cases h
/-- What reading gives, reckoned. -/
def readD (bs : List UInt8) (pl : Int) : RdR := match bs with
  | [] => errR 3 pl [] pl
  | o :: t => if 24 < o.toNat then errR 11 pl t (pl + 1)
    else if (operK (rowOf o.toNat).1 o.toNat t (pl + 1)).c ≠ 0 then errR (operK (rowOf o.toNat).1 o.toNat t (pl + 1)).c (operK (rowOf o.toNat).1 o.toNat t (pl + 1)).a (operK (rowOf o.toNat).1 o.toNat t (pl + 1)).bs (operK (rowOf o.toNat).1 o.toNat t (pl + 1)).pl
    else if fitsD (rowOf o.toNat).1 (operK (rowOf o.toNat).1 o.toNat t (pl + 1)).x = true then operK (rowOf o.toNat).1 o.toNat t (pl + 1)
    else errR 2 pl (operK (rowOf o.toNat).1 o.toNat t (pl + 1)).bs (operK (rowOf o.toNat).1 o.toNat t (pl + 1)).pl
theorem read_D (bs : List UInt8) (pl : Int) : readR bs pl = readD bs pl := by
  have hb : ∀ (r : Row) (x : Ins), bP (fitsP r x) = fitsD r x := fun r x => by
    cases h : fitsD r x with
    | true => exact (bP_t (fits_t h)).symm
    | false => exact (bP_f (fits_f h)).symm
  cases bs with
  | nil => rfl
  | cons o t =>
    rw [read_cons, hb]
    rfl
theorem bytes_len {n : Nat} {x : Ins} (h24 : n ≤ 24) (hx : x.op = (n : Int)) (hf : fitsP (rowOf n).1 x) (ha : -9223372036854775808 ≤ x.a ∧ x.a ≤ 9223372036854775807) : (bytesL (rowOf n) x).length ≤ 131 ∧ 1 ≤ (bytesL (rowOf n) x).length := by
  by_cases h1 : n = 1
  · subst h1
    rw [bytes_one hx hf.1.2.2]
    have := enc_len10 (fold_lt ha)
    simp
    omega
  · rw [bytes_tail h24 hx h1 hf.1.2.2]
    obtain ⟨⟨f0, f1, f2⟩, ⟨f3, f4, f5⟩, f6, f7⟩ := hf
    obtain ⟨b1, b2, b3, b4⟩ := row_small h24
    obtain ⟨b5, b6⟩ := row_few h24
    have o1 := opt_len (m := (rowOf n).1.b) (in_bound f3 b1)
    have o2 := opt_len (m := (rowOf n).1.c) (in_bound f4 b2)
    have o3 := opt_len (m := (rowOf n).1.d) (in_bound f5 b3)
    have o4 := flat_len (okL_mem f7 b4)
    have o5 := enc_len10 (n := x.l.length) (by omega)
    unfold tailL
    simp only [List.length_cons, List.length_append]
    split
    · omega
    · simp only [List.length_nil]; omega
theorem Ct.postS {f : FuncId} {args : Array Value} {L : List HP} {R R' : Ending → List HP → Prop} (h : Ct Tryd.prog f args L R) (hr : ∀ e L', R e L' → ∀ F w, Sat w (F :: L') → ∃ L'', R' e L'' ∧ Sat w (F :: L'')) : Ct Tryd.prog f args L R' := fun F w hs =>
  (h F w hs).mono fun _ w' ⟨hne, _, r, s⟩ => let ⟨L'', r', s'⟩ := hr _ _ r F w' s; ⟨hne, L'', r', s'⟩
theorem sat_er0 {v : Value} {a : Int} {w : World} {L : List HP} (h : Sat w (Er v 0 a :: L)) : v = .nilIface := h.out fun _ hk => hk.elim (fun h => h.2.2) (fun h => absurd rfl h.1)
theorem sat_er1 {v : Value} {c a : Int} {w : World} {L : List HP} (hc : c ≠ 0) (h : Sat w (Er v c a :: L)) : ∃ q, v = faultI q ∧ Sat w (Ft q c a :: L) := by
  obtain ⟨q, h1⟩ := h.outE (α := Nat) (B := fun q k => v = faultI q ∧ Ft q c a k) (fun k hk => hk.elim (fun h => absurd h.1 hc) (fun h => h.2))
  exact ⟨q, h1.out fun _ hk => hk.1, h1.conv fun _ hk => hk.2⟩
theorem read_ok (q : Nat) (bs : List UInt8) (pl : Int) (hpl : 0 ≤ pl ∧ pl + bs.length ≤ 1000000) {x : Ins} {bs' : List UInt8} {pl' : Int} (h : readR bs pl = ⟨x, 0, 0, bs', pl'⟩) :
    Ct Tryd.prog 24 #[ptr q] [RdB q bs pl] (RetE (fun y : Option Addr × Nat => x.l.length ≤ y.2) (fun y => .tuple #[.agg (insC x (.slice y.1 x.l.length y.2)).toArray, .nilIface]) (fun y => [Vw 1 (.slice y.1 x.l.length y.2) x.l.length (ints x.l), RdB q bs' pl'])) :=
  Ct.postS (read_c q bs pl hpl) fun e L' ⟨⟨v, p, cap⟩, hc, he, hL⟩ F w hs => by
    rw [h] at hc he hL
    dsimp only at hc he hL
    rw [hL] at hs
    obtain rfl := sat_er0 hs.rot
    exact ⟨_, ⟨(p, cap), hc, he, rfl⟩, hs.rot.tail.rot.rot⟩
theorem read_bad (q : Nat) (bs : List UInt8) (pl : Int) (hpl : 0 ≤ pl ∧ pl + bs.length ≤ 1000000) {c a : Int} {bs' : List UInt8} {pl' : Int} (h : readR bs pl = errR c a bs' pl') (hc0 : c ≠ 0) :
    Ct Tryd.prog 24 #[ptr q] [RdB q bs pl] (RetE (fun _ : Nat × Option Addr × Nat => True) (fun y => .tuple #[.agg (insC zeroI (.slice y.2.1 0 y.2.2)).toArray, faultI y.1]) (fun y => [Ft y.1 c a, Vw 1 (.slice y.2.1 0 y.2.2) 0 (ints []), RdB q bs' pl'])) :=
  Ct.postS (read_c q bs pl hpl) fun e L' ⟨⟨v, p, cap⟩, hc, he, hL⟩ F w hs => by
    rw [h] at hc he hL
    unfold errR at hc he hL
    dsimp only at hc he hL
    rw [hL] at hs
    obtain ⟨qf, rfl, h1⟩ := sat_er1 hc0 hs.rot
    exact ⟨_, ⟨(qf, p, cap), trivial, he, rfl⟩, h1.rot.rot.rot⟩
theorem wb0 : bytesL (rowOf 0) ⟨0, 0, 0, 0, 0, []⟩ = [0] := by simp [bytesL, rowOf, optL, encI, encU_lt, encU_ge, foldZ]
theorem wf0 : fitsP (rowOf 0).1 ⟨0, 0, 0, 0, 0, []⟩ := fits_t (by decide)
theorem wb1 : bytesL (rowOf 1) ⟨1, (-2), 0, 0, 0, []⟩ = [1, 3] := by simp [bytesL, rowOf, optL, encI, encU_lt, encU_ge, foldZ]
theorem wf1 : fitsP (rowOf 1).1 ⟨1, (-2), 0, 0, 0, []⟩ := fits_t (by decide)
theorem wb2 : bytesL (rowOf 9) ⟨9, 0, 3, 0, 0, []⟩ = [9, 3] := by simp [bytesL, rowOf, optL, encI, encU_lt, encU_ge, foldZ]
theorem wf2 : fitsP (rowOf 9).1 ⟨9, 0, 3, 0, 0, []⟩ := fits_t (by decide)
theorem wb3 : bytesL (rowOf 16) ⟨16, 0, 1, 2, 0, []⟩ = [16, 1, 2] := by simp [bytesL, rowOf, optL, encI, encU_lt, encU_ge, foldZ]
theorem wf3 : fitsP (rowOf 16).1 ⟨16, 0, 1, 2, 0, []⟩ := fits_t (by decide)
theorem wd4 : ([.int .i64 5] : List Value) = ints [5] := rfl
theorem wb4 : bytesL (rowOf 11) ⟨11, 0, 0, 0, 0, [5]⟩ = [11, 5] := by simp [bytesL, rowOf, optL, encI, encU_lt, encU_ge, foldZ]
theorem wf4 : fitsP (rowOf 11).1 ⟨11, 0, 0, 0, 0, [5]⟩ := fits_t (by decide)
theorem wd5 : ([.int .i64 127] : List Value) = ints [127] := rfl
theorem wb5 : bytesL (rowOf 12) ⟨12, 0, 0, 0, 0, [127]⟩ = [12, 127] := by simp [bytesL, rowOf, optL, encI, encU_lt, encU_ge, foldZ]
theorem wf5 : fitsP (rowOf 12).1 ⟨12, 0, 0, 0, 0, [127]⟩ := fits_t (by decide)
theorem wb6 : bytesL (rowOf 18) ⟨18, 0, 1, 7, 0, []⟩ = [18, 1, 7] := by simp [bytesL, rowOf, optL, encI, encU_lt, encU_ge, foldZ]
theorem wf6 : fitsP (rowOf 18).1 ⟨18, 0, 1, 7, 0, []⟩ := fits_t (by decide)
theorem wd7 : ([.int .i64 4, .int .i64 9] : List Value) = ints [4, 9] := rfl
theorem wb7 : bytesL (rowOf 19) ⟨19, 0, 0, 0, 0, [4, 9]⟩ = [19, 0, 2, 4, 9] := by simp [bytesL, rowOf, optL, encI, encU_lt, encU_ge, foldZ]
theorem wf7 : fitsP (rowOf 19).1 ⟨19, 0, 0, 0, 0, [4, 9]⟩ := fits_t (by decide)
theorem wd8 : ([.int .i64 0, .int .i64 1] : List Value) = ints [0, 1] := rfl
theorem wb8 : bytesL (rowOf 20) ⟨20, 0, 2, 0, 300, [0, 1]⟩ = [20, 2, 172, 2, 0, 1] := by simp [bytesL, rowOf, optL, encI, encU_lt, encU_ge, foldZ]
theorem wf8 : fitsP (rowOf 20).1 ⟨20, 0, 2, 0, 300, [0, 1]⟩ := fits_t (by decide)
theorem wd9 : ([.int .i64 0, .int .i64 3] : List Value) = ints [0, 3] := rfl
theorem wb9 : bytesL (rowOf 21) ⟨21, 0, 1, 0, 0, [0, 3]⟩ = [21, 1, 2, 0, 3] := by simp [bytesL, rowOf, optL, encI, encU_lt, encU_ge, foldZ]
theorem wf9 : fitsP (rowOf 21).1 ⟨21, 0, 1, 0, 0, [0, 3]⟩ := fits_t (by decide)
theorem wb10 : bytesL (rowOf 24) ⟨24, 0, 0, 0, 0, []⟩ = [24] := by simp [bytesL, rowOf, optL, encI, encU_lt, encU_ge, foldZ]
theorem wf10 : fitsP (rowOf 24).1 ⟨24, 0, 0, 0, 0, []⟩ := fits_t (by decide)
attribute [local irreducible] callFunc Go.method J JL JO Ct JG JM JW JW1 JQ JQ0 JS CtD LeavesQ ints RdB Er by8 Gl readR bytesL fitsP
set_option maxHeartbeats 4000000 in
theorem isI_c (x : Ins) (p : Option Addr) (cap : Nat) (hc : x.l.length ≤ cap) (hm : x.l.length ≤ 1000) (ha : -9223372036854775808 ≤ x.a ∧ x.a ≤ 9223372036854775807) {n : Nat} (hn : x.op = (n : Int)) (hn24 : n ≤ 24) (hfit : fitsP (rowOf n).1 x) (want : List UInt8) (hw : want = bytesL (rowOf n) x) :
    Ct Tryd.prog 35 #[.agg (insC x (.slice p x.l.length cap)).toArray, str want] [Vw 1 (.slice p x.l.length cap) x.l.length (ints x.l)] (RetV (.bool true) []) := by
  have hb := bytes_ok x p cap hc hm ha hn hn24 hfit
  have hl := (bytes_len hn24 hn hfit ha).1
  have hr0 := read_lay hn24 hn hfit ha [] 0
  rw [List.append_nil] at hr0
  rw [← hw] at hb hl hr0
  have hr := fun q => read_ok q want 0 (by omega) hr0
  refine fn_ret (vs := [_, _]) Tryd.func35 rfl Tryd.ntmps35 (by simp) ?_
  repeat (first | (first | refine J_region ?_ | refine JL_nil ?_ | refine J_seq ?_ | refine J_skip ?_ | refine J_condF rfl ?_) | (first | ((first | refine JL_step rfl ?_); first | refine JO_callE rfl (newreader_B want (Nat.le_trans hl (by decide))) rfl (fun q _ => ?_) | refine JO_q (by simp) (JQ_eqP rfl) rfl ?_ | refine JO_callE rfl (hr q) rfl (fun y hy => ?_) | refine JO_storeW rfl rfl (by rfl) (by rfl) (ins_one rfl) rfl ?_ | refine JO_move rfl rfl ?_ | refine JO_assign rfl rfl ?_ | refine JO_loadW rfl (by rfl) rfl ?_ | refine JO_extract rfl rfl rfl ?_ | refine JO_boxA rfl rfl (fun r => ?_) | refine JO_allocA rfl (fun r => ?_))))
  have hs := lsame_c x p y.1 cap y.2 (by omega)
  have he := end_okB q (0 + (want.length : Int))
  repeat (first | (first | refine JL_nil ?_ | refine J_ret ?_) | (first | ((first | refine JL_step rfl ?_ | refine JL_take rfl rfl ?_); first | refine JO_q (by simp) (JQ_eqS0 rfl rfl) rfl ?_ | refine JO_q (by simp) (JQ_eqI0 rfl) rfl ?_ | refine JO_move rfl rfl ?_ | refine JO_assign rfl rfl ?_ | refine JO_loadW rfl (by rfl) rfl ?_ | refine JO_pickT rfl rfl rfl ?_ | refine JO_callVP rfl (hb) rfl ?_ | refine JO_callVP rfl (hs) rfl ?_ | refine JO_callV' rfl (he) rfl ?_)))
  exact ret_oneV rfl rfl .nil
set_option maxHeartbeats 4000000 in
theorem fails9_c (s : List UInt8) (hs : s.length ≤ 100000) (c a : Int) (bs' : List UInt8) (pl' : Int) (h : readR s 0 = errR c a bs' pl') (hc : c ≠ 0) (te : TypeId) (fz : Nat × Nat) :
    Ct Tryd.prog 34 #[str s, .int .i64 c, .int .i64 a] [Gl te fz] (RetV (.bool true) [Gl te fz]) := by
  have hr := fun q => read_bad q s 0 (by omega) h hc
  refine fn_ret (vs := [_, _, _]) Tryd.func34 rfl Tryd.ntmps34 (by simp) ?_
  repeat (first | (first | refine J_region ?_ | refine JL_nil ?_ | refine J_seq ?_ | refine J_skip ?_ | refine J_condF rfl ?_) | (first | ((first | refine JL_step rfl ?_); first | refine JO_callE rfl (newreader_B s (Nat.le_trans hs (by decide))) rfl (fun q _ => ?_) | refine JO_q (by simp) (JQ_eqP rfl) rfl ?_ | refine JO_callE rfl (hr q) rfl (fun y hy => ?_) | refine JO_storeW rfl rfl (by rfl) (by rfl) (ins_one rfl) rfl ?_ | refine JO_move rfl rfl ?_ | refine JO_assign rfl rfl ?_ | refine JO_extract rfl rfl rfl ?_ | refine JO_allocA rfl (fun r => ?_))))
  have ht := told9_faultK y.1 c a hc te fz
  have hsm : Ct Tryd.prog 42 #[.agg (insC zeroI (.slice y.2.1 0 y.2.2)).toArray, .agg (insC zeroI (.slice none 0 0)).toArray] [Vw 1 (.slice y.2.1 0 y.2.2) 0 (ints []), Vw 1 (.slice none 0 0) 0 (ints [])] (RetV (.bool true) []) := lsame_c zeroI y.2.1 none y.2.2 0 (by decide)
  refine JL_heap vw0 ?_
  repeat (first | (first | refine JL_nil ?_ | refine J_ret ?_) | (first | ((first | refine JL_step rfl ?_ | refine JL_take rfl rfl ?_); first | refine JO_build (cs := [.int .i64 c, .int .i64 a]) rfl rfl rfl ?_ | refine JO_build (cs := insC zeroI (.slice none 0 0)) rfl rfl rfl ?_ | refine JO_move rfl rfl ?_ | refine JO_assign rfl rfl ?_ | refine JO_loadW rfl (by rfl) rfl ?_ | refine JO_pickT rfl rfl rfl ?_ | refine JO_callV' rfl (ht) rfl ?_ | refine JO_callVP rfl (hsm) rfl ?_)))
  exact ret_oneV rfl rfl Ent.sel
set_option maxRecDepth 8000 in
set_option maxHeartbeats 8000000 in
theorem works9_c (te : TypeId) (fz : Nat × Nat) : Ct Tryd.prog 30 #[] [Gl te fz] (RetV (.bool true) [Gl te fz]) := by
  have s0 : Ct Tryd.prog 35 #[.agg (insC ⟨0, 0, 0, 0, 0, []⟩ (.slice none 0 0)).toArray, str [0]] [Vw 1 (.slice none 0 0) 0 (ints [])] (RetV (.bool true) []) := isI_c ⟨0, 0, 0, 0, 0, []⟩ none 0 (by decide) (by decide) (by decide) (n := 0) rfl (by decide) wf0 _ wb0.symm
  have s1 : Ct Tryd.prog 35 #[.agg (insC ⟨1, (-2), 0, 0, 0, []⟩ (.slice none 0 0)).toArray, str [1, 3]] [Vw 1 (.slice none 0 0) 0 (ints [])] (RetV (.bool true) []) := isI_c ⟨1, (-2), 0, 0, 0, []⟩ none 0 (by decide) (by decide) (by decide) (n := 1) rfl (by decide) wf1 _ wb1.symm
  have s2 : Ct Tryd.prog 35 #[.agg (insC ⟨9, 0, 3, 0, 0, []⟩ (.slice none 0 0)).toArray, str [9, 3]] [Vw 1 (.slice none 0 0) 0 (ints [])] (RetV (.bool true) []) := isI_c ⟨9, 0, 3, 0, 0, []⟩ none 0 (by decide) (by decide) (by decide) (n := 9) rfl (by decide) wf2 _ wb2.symm
  have s3 : Ct Tryd.prog 35 #[.agg (insC ⟨16, 0, 1, 2, 0, []⟩ (.slice none 0 0)).toArray, str [16, 1, 2]] [Vw 1 (.slice none 0 0) 0 (ints [])] (RetV (.bool true) []) := isI_c ⟨16, 0, 1, 2, 0, []⟩ none 0 (by decide) (by decide) (by decide) (n := 16) rfl (by decide) wf3 _ wb3.symm
  have s4 : ∀ r : Nat, Ct Tryd.prog 35 #[.agg (insC ⟨11, 0, 0, 0, 0, [5]⟩ (.slice (some ⟨r, 0, none⟩) 1 1)).toArray, str [11, 5]] [Vw 1 (.slice (some ⟨r, 0, none⟩) 1 1) 1 (ints [5])] (RetV (.bool true) []) := fun r => isI_c ⟨11, 0, 0, 0, 0, [5]⟩ _ 1 (by decide) (by decide) (by decide) (n := 11) rfl (by decide) wf4 _ wb4.symm
  have s5 : ∀ r : Nat, Ct Tryd.prog 35 #[.agg (insC ⟨12, 0, 0, 0, 0, [127]⟩ (.slice (some ⟨r, 0, none⟩) 1 1)).toArray, str [12, 127]] [Vw 1 (.slice (some ⟨r, 0, none⟩) 1 1) 1 (ints [127])] (RetV (.bool true) []) := fun r => isI_c ⟨12, 0, 0, 0, 0, [127]⟩ _ 1 (by decide) (by decide) (by decide) (n := 12) rfl (by decide) wf5 _ wb5.symm
  have s6 : Ct Tryd.prog 35 #[.agg (insC ⟨18, 0, 1, 7, 0, []⟩ (.slice none 0 0)).toArray, str [18, 1, 7]] [Vw 1 (.slice none 0 0) 0 (ints [])] (RetV (.bool true) []) := isI_c ⟨18, 0, 1, 7, 0, []⟩ none 0 (by decide) (by decide) (by decide) (n := 18) rfl (by decide) wf6 _ wb6.symm
  have s7 : ∀ r : Nat, Ct Tryd.prog 35 #[.agg (insC ⟨19, 0, 0, 0, 0, [4, 9]⟩ (.slice (some ⟨r, 0, none⟩) 2 2)).toArray, str [19, 0, 2, 4, 9]] [Vw 1 (.slice (some ⟨r, 0, none⟩) 2 2) 2 (ints [4, 9])] (RetV (.bool true) []) := fun r => isI_c ⟨19, 0, 0, 0, 0, [4, 9]⟩ _ 2 (by decide) (by decide) (by decide) (n := 19) rfl (by decide) wf7 _ wb7.symm
  have s8 : ∀ r : Nat, Ct Tryd.prog 35 #[.agg (insC ⟨20, 0, 2, 0, 300, [0, 1]⟩ (.slice (some ⟨r, 0, none⟩) 2 2)).toArray, str [20, 2, 172, 2, 0, 1]] [Vw 1 (.slice (some ⟨r, 0, none⟩) 2 2) 2 (ints [0, 1])] (RetV (.bool true) []) := fun r => isI_c ⟨20, 0, 2, 0, 300, [0, 1]⟩ _ 2 (by decide) (by decide) (by decide) (n := 20) rfl (by decide) wf8 _ wb8.symm
  have s9 : ∀ r : Nat, Ct Tryd.prog 35 #[.agg (insC ⟨21, 0, 1, 0, 0, [0, 3]⟩ (.slice (some ⟨r, 0, none⟩) 2 2)).toArray, str [21, 1, 2, 0, 3]] [Vw 1 (.slice (some ⟨r, 0, none⟩) 2 2) 2 (ints [0, 3])] (RetV (.bool true) []) := fun r => isI_c ⟨21, 0, 1, 0, 0, [0, 3]⟩ _ 2 (by decide) (by decide) (by decide) (n := 21) rfl (by decide) wf9 _ wb9.symm
  have s10 : Ct Tryd.prog 35 #[.agg (insC ⟨24, 0, 0, 0, 0, []⟩ (.slice none 0 0)).toArray, str [24]] [Vw 1 (.slice none 0 0) 0 (ints [])] (RetV (.bool true) []) := isI_c ⟨24, 0, 0, 0, 0, []⟩ none 0 (by decide) (by decide) (by decide) (n := 24) rfl (by decide) wf10 _ wb10.symm
  have f0 := fails9_c [] (by decide) 3 0 _ _ ((read_D _ _).trans rfl) (by decide) te fz
  have f1 := fails9_c [25] (by decide) 11 0 _ _ ((read_D _ _).trans rfl) (by decide) te fz
  have f2 := fails9_c [16, 1, 1] (by decide) 2 0 _ _ ((read_D _ _).trans rfl) (by decide) te fz
  have f3 := fails9_c [19, 0, 0] (by decide) 2 0 _ _ ((read_D _ _).trans rfl) (by decide) te fz
  have f4 := fails9_c [9, 16] (by decide) 4 1 _ _ ((read_D _ _).trans rfl) (by decide) te fz
  have f5 := fails9_c [19, 0, 9] (by decide) 4 2 _ _ ((read_D _ _).trans rfl) (by decide) te fz
  have f6 := fails9_c [11, 128, 1] (by decide) 4 1 _ _ ((read_D _ _).trans rfl) (by decide) te fz
  refine fn_ret (vs := []) Tryd.func30 rfl Tryd.ntmps30 (by simp) ?_
  refine J_heap vw0 ?_
  repeat (first | (first | refine J_region ?_ | refine JL_nil ?_ | refine J_seq ?_ | refine J_ret ?_) | (first | ((first | refine JL_step rfl ?_ | refine JL_take rfl rfl ?_); first | refine JO_build (cs := insC ⟨0, 0, 0, 0, 0, []⟩ (.slice none 0 0)) rfl rfl rfl ?_ | refine JO_build (cs := insC ⟨1, (-2), 0, 0, 0, []⟩ (.slice none 0 0)) rfl rfl rfl ?_ | refine JO_build (cs := insC ⟨9, 0, 3, 0, 0, []⟩ (.slice none 0 0)) rfl rfl rfl ?_ | refine JO_build (cs := insC ⟨16, 0, 1, 2, 0, []⟩ (.slice none 0 0)) rfl rfl rfl ?_ | refine JO_buildV [5] rfl rfl rfl wd4 rfl (by decide) rfl (fun r => ?_) | refine JO_build (cs := insC ⟨11, 0, 0, 0, 0, [5]⟩ (.slice (some ⟨_, 0, none⟩) 1 1)) rfl rfl rfl ?_ | refine JO_buildV [127] rfl rfl rfl wd5 rfl (by decide) rfl (fun r => ?_) | refine JO_build (cs := insC ⟨12, 0, 0, 0, 0, [127]⟩ (.slice (some ⟨_, 0, none⟩) 1 1)) rfl rfl rfl ?_ | refine JO_build (cs := insC ⟨18, 0, 1, 7, 0, []⟩ (.slice none 0 0)) rfl rfl rfl ?_ | refine JO_buildV [4, 9] rfl rfl rfl wd7 rfl (by decide) rfl (fun r => ?_) | refine JO_build (cs := insC ⟨19, 0, 0, 0, 0, [4, 9]⟩ (.slice (some ⟨_, 0, none⟩) 2 2)) rfl rfl rfl ?_ | refine JO_buildV [0, 1] rfl rfl rfl wd8 rfl (by decide) rfl (fun r => ?_) | refine JO_build (cs := insC ⟨20, 0, 2, 0, 300, [0, 1]⟩ (.slice (some ⟨_, 0, none⟩) 2 2)) rfl rfl rfl ?_ | refine JO_buildV [0, 3] rfl rfl rfl wd9 rfl (by decide) rfl (fun r => ?_) | refine JO_build (cs := insC ⟨21, 0, 1, 0, 0, [0, 3]⟩ (.slice (some ⟨_, 0, none⟩) 2 2)) rfl rfl rfl ?_ | refine JO_build (cs := insC ⟨24, 0, 0, 0, 0, []⟩ (.slice none 0 0)) rfl rfl rfl ?_ | refine JO_move rfl rfl ?_ | refine JO_assign rfl rfl ?_ | refine JO_pickT rfl rfl rfl ?_ | refine JO_callVP rfl (s0) rfl ?_ | refine JO_callVP rfl (s1) rfl ?_ | refine JO_callVP rfl (s2) rfl ?_ | refine JO_callVP rfl (s3) rfl ?_ | refine JO_callVP rfl (s4 _) rfl ?_ | refine JO_callVP rfl (s5 _) rfl ?_ | refine JO_callVP rfl (s6) rfl ?_ | refine JO_callVP rfl (s7 _) rfl ?_ | refine JO_callVP rfl (s8 _) rfl ?_ | refine JO_callVP rfl (s9 _) rfl ?_ | refine JO_callVP rfl (s10) rfl ?_ | refine JO_callVP rfl (f0) rfl ?_ | refine JO_callVP rfl (f1) rfl ?_ | refine JO_callVP rfl (f2) rfl ?_ | refine JO_callVP rfl (f3) rfl ?_ | refine JO_callVP rfl (f4) rfl ?_ | refine JO_callVP rfl (f5) rfl ?_ | refine JO_callVP rfl (f6) rfl ?_)))
  exact ret_oneV rfl rfl Ent.sel
end Go.Proofs.YtfelcdbhlahehaaDoor

/- Layer 9: InsnReads' walk. -/
namespace Go.Proofs.YtfelcdbhlahehaaDoor
open Go Go.Sp
attribute [local irreducible] callFunc Go.method J JL JO Ct JG JM JW JW1 JQ JQ0 JS CtD LeavesQ ints RdB Er by8 Gl readR
end Go.Proofs.YtfelcdbhlahehaaDoor

/- The library, 48: equal bools. -/
namespace Go.Sp
open Go
section
variable {P : Program} {N : Nat} {E : Env} {D : List Deferred} {L L0 : List HP} {Q : Post} {m : Nat}
variable {d : Option Nat} {ty : TypeId} {pos : String} {after : Array Edge} {g : Option (Nat × Bool)}
end
end Go.Sp

/- Layer 9: InsnCuts' walk, InsnPuts' walk. -/
namespace Go.Proofs.YtfelcdbhlahehaaDoor
open Go Go.Sp
theorem chk_cases (x : Ins) : chkA x ≠ 0 ∨ ∃ n : Nat, n ≤ 24 ∧ x.op = (n : Int) ∧ fitsP (rowOf n).1 x ∧ chkA x = 0 := by
  by_cases h : x.op < 0 ∨ 24 < x.op
  · left; rw [chk_out h]; decide
  · obtain ⟨n, hn⟩ := Int.eq_ofNat_of_zero_le (show 0 ≤ x.op by omega)
    by_cases hf : fitsP (rowOf n).1 x
    · right; exact ⟨n, by omega, hn, hf, chk_ok hn (by omega) hf⟩
    · left; rw [chk_bad hn (by omega) hf]; decide
theorem few_len (x : Ins) : (fewI x).l.length ≤ x.l.length ∧ (fewI x).l.length ≤ 12 := by simp [fewI]; omega
theorem few_a (x : Ins) : (fewI x).a = x.a := rfl
attribute [local irreducible] callFunc Go.method J JL JO Ct JG JM JW JW1 JQ JQ0 JS CtD LeavesQ ints RdB WrB Er by8 Gl bytesL fitsP chkA fewI
end Go.Proofs.YtfelcdbhlahehaaDoor

/- Layer 9: InsnBack's walk. -/
namespace Go.Proofs.YtfelcdbhlahehaaDoor
open Go Go.Sp
abbrev YI := Ins × Option Addr × Nat
/-- The rows of instructions' numbers. -/
def Rows9 (ys : List YI) : HP := fun k => ∀ y ∈ ys, Vw 1 (.slice y.2.1 y.1.l.length y.2.2) y.1.l.length (ints y.1.l) k
theorem pers_rows9 (ys : List YI) : Pers (Rows9 ys) := fun _ h y hy => pers_vw _ _ _ _ _ (h y hy)
theorem rows9_at {ys : List YI} {y : YI} (hy : y ∈ ys) (k : Part) (h : Rows9 ys k) : ∃ _ : Unit, Star [Vw 1 (.slice y.2.1 y.1.l.length y.2.2) y.1.l.length (ints y.1.l)] k :=
  ⟨(), star_pers fun A hA => by
    simp only [List.mem_cons, List.not_mem_nil, or_false] at hA
    subst hA
    exact ⟨pers_vw _ _ _ _, h y hy⟩⟩
theorem rows9_nil {L : List HP} : Ent L (Rows9 [] :: L) := Ent.cons fun w M h => h.add (fun y hy => by cases hy)
theorem up_rows9 (ys : List YI) : Up (Rows9 ys) := fun _ _ hl h y hy => up_vw _ _ _ _ _ _ hl (h y hy)
theorem rows9_snoc {ys : List YI} {y : YI} {L : List HP} : Ent (Rows9 ys :: Vw 1 (.slice y.2.1 y.1.l.length y.2.2) y.1.l.length (ints y.1.l) :: L) (Rows9 (ys ++ [y]) :: L) := fun F w hs => by
  refine (Sat.join (M := [Rows9 ys, Vw 1 (.slice y.2.1 y.1.l.length y.2.2) y.1.l.length (ints y.1.l)]) (L := F :: L) (hs.perm ((List.Perm.swap _ _ _).trans (List.Perm.cons _ (List.Perm.swap _ _ _)))) fun k hk => ?_).swap
  obtain ⟨h1, h2⟩ := star_two (up_rows9 _) (up_vw _ _ _ _) hk
  intro z hz
  rw [List.mem_append, List.mem_singleton] at hz
  rcases hz with hz | rfl
  · exact h1 z hz
  · exact h2
theorem put_badK (w : Nat) (pre : List UInt8) (y : Ins) (p : Option Addr) (cap : Nat) (hc : y.l.length ≤ cap) (hm : y.l.length ≤ 1000) (h0 : chkA y ≠ 0) : Ct Tryd.prog 40 #[ptr w, .agg (insC y (.slice p y.l.length cap)).toArray] [Vw 1 (.slice p y.l.length cap) y.l.length (ints y.l), WrB w pre] (RetV (.int .i64 (chkA y)) [WrB w pre, Vw 1 (.slice p y.l.length cap) y.l.length (ints y.l)]) :=
  Ct.post (Ct.heap ((Ent.dup (Vw 1 (.slice p y.l.length cap) y.l.length (ints y.l))).trans (Ent.sel (K := [Vw 1 (.slice p y.l.length cap) y.l.length (ints y.l), WrB w pre, Vw 1 (.slice p y.l.length cap) y.l.length (ints y.l)]))) ((put_bad w pre y p cap hc (by omega) h0).frame [WrB w pre, Vw 1 (.slice p y.l.length cap) y.l.length (ints y.l)])) fun _ _ ⟨_, ⟨he, hL⟩, hL'⟩ => ⟨_, Ent.refl _, he, by rw [hL', hL]; rfl⟩
theorem put_okK (w : Nat) (pre : List UInt8) (y : Ins) (p : Option Addr) (cap : Nat) (hc : y.l.length ≤ cap) (hm : y.l.length ≤ 1000) (hpre : pre.length ≤ 900000) (ha : -9223372036854775808 ≤ y.a ∧ y.a ≤ 9223372036854775807) {n : Nat} (hn : y.op = (n : Int)) (hn24 : n ≤ 24) (hfit : fitsP (rowOf n).1 y) :
    Ct Tryd.prog 40 #[ptr w, .agg (insC y (.slice p y.l.length cap)).toArray] [Vw 1 (.slice p y.l.length cap) y.l.length (ints y.l), WrB w pre] (RetV (.int .i64 0) [WrB w (pre ++ bytesL (rowOf n) y), Vw 1 (.slice p y.l.length cap) y.l.length (ints y.l)]) :=
  Ct.post (Ct.heap ((Ent.dup (Vw 1 (.slice p y.l.length cap) y.l.length (ints y.l))).trans (Ent.sel (K := [Vw 1 (.slice p y.l.length cap) y.l.length (ints y.l), WrB w pre, Vw 1 (.slice p y.l.length cap) y.l.length (ints y.l)]))) ((put_ok w pre y p cap hc hm hpre ha hn hn24 hfit).frame [Vw 1 (.slice p y.l.length cap) y.l.length (ints y.l)])) fun _ _ ⟨_, ⟨he, hL⟩, hL'⟩ => ⟨_, Ent.refl _, he, by rw [hL', hL]; rfl⟩
def FitY (z : YI) : Prop := ∃ n : Nat, n ≤ 24 ∧ z.1.op = (n : Int) ∧ fitsP (rowOf n).1 z.1 ∧ (-9223372036854775808 ≤ z.1.a ∧ z.1.a ≤ 9223372036854775807) ∧ z.1.l.length ≤ 12 ∧ z.1.l.length ≤ z.2.2
def encY (z : YI) : List UInt8 := bytesL (rowOf z.1.op.toNat) z.1
theorem encY_of {z : YI} {n : Nat} (h : z.1.op = (n : Int)) : encY z = bytesL (rowOf n) z.1 := by unfold encY; rw [h, Int.toNat_natCast]
theorem encY_len {z : YI} (h : FitY z) : (encY z).length ≤ 131 ∧ 1 ≤ (encY z).length := by
  obtain ⟨n, h1, h2, h3, h4, _⟩ := h
  rw [encY_of h2]
  exact bytes_len h1 h2 h3 h4
theorem encs_len : ∀ {ys : List YI}, (∀ z ∈ ys, FitY z) → (ys.flatMap encY).length ≤ 131 * ys.length := by
  intro ys
  induction ys with
  | nil => intro _; simp
  | cons z l ih =>
    intro h
    have h1 := (encY_len (h z (by simp))).1
    have h2 := ih (fun y hy => h y (by simp [hy]))
    simp only [List.flatMap_cons, List.length_append, List.length_cons]
    omega
instance cat_ins (x : Ins) (v : Value) : Cat [.agg (insC x v).toArray] 6 (insC x v) := ⟨fun u hu => by
  rw [List.mem_singleton] at hu
  subst hu
  rfl, by simp [Value.cells]⟩
theorem read_a {bs : List UInt8} {pl : Int} (h : (readR bs pl).c = 0) : (readR bs pl).a = 0 := by
  cases bs with
  | nil => rw [read_nil] at h; exact absurd (show (3 : Int) = 0 from h) (by decide)
  | cons o t =>
    rw [read_cons] at h ⊢
    split at h
    · exact absurd (show (11 : Int) = 0 from h) (by decide)
    · rename_i h1
      rw [if_neg h1]
      split at h
      · rename_i h2; exact absurd h h2
      · rename_i h2
        rw [if_neg h2]
        split at h
        · rename_i h3
          rw [if_pos h3]
          exact oper_a h
        · exact absurd (show (2 : Int) = 0 from h) (by decide)
theorem read_err {bs : List UInt8} {pl : Int} (h : (readR bs pl).c ≠ 0) : readR bs pl = errR (readR bs pl).c (readR bs pl).a (readR bs pl).bs (readR bs pl).pl := by
  cases bs with
  | nil => rfl
  | cons o t =>
    rw [read_cons] at h ⊢
    split
    · rfl
    · rename_i h1
      rw [if_neg h1] at h
      split
      · rfl
      · rename_i h2
        rw [if_neg h2] at h
        split
        · rename_i h3
          rw [if_pos h3] at h
          exact absurd h h2
        · rfl
theorem cellsI_len (y : YI) : (cellsI y).length = 6 := rfl
section
variable {P : Program} {N : Nat} {E : Env} {D : List Deferred} {L : List HP} {d : Option Nat} {ty : TypeId} {pos : String} {after : Array Edge} {g : Option (Nat × Bool)}
theorem JQ_sliceSE {t : TypeId} [TU P t .string] {x lo hi : Operand} {bs cs : List UInt8} {l h : Nat} {ik ik2 : IntKind} (hx : ev E x = some (str bs)) (hl : ev E lo = some (.int ik (l : Int))) (hh : ev E hi = some (.int ik2 (h : Int))) (h1 : l ≤ h) (h2 : h ≤ bs.length) (e : (bs.take h).drop l = cs) :
    JQ P N ⟨d, .slice t x (some lo) (some hi) none, ty, pos, after, g⟩ E D L (str cs) := e ▸ JQ_sliceS hx hl hh h1 h2
end
attribute [local irreducible] callFunc Go.method J JL JO Ct JG JM JW JW1 JQ JQ0 JS CtD LeavesQ ints RdB WrB Er by8 Gl bytesL fitsP chkA fewI Rows9 encY FitY
set_option maxHeartbeats 16000000 in
theorem insnBack_c (xs : List YI) (hx : ∀ x ∈ xs, x.1.l.length ≤ x.2.2 ∧ (-9223372036854775808 ≤ x.1.a ∧ x.1.a ≤ 9223372036854775807)) (p : Option Addr) (cap : Nat) (s : List UInt8) (hs : s.length ≤ maxLen) (te : TypeId) (fz : Nat × Nat) :
    Ct Tryd.prog 11 #[.slice p xs.length cap, str s] [Vw 6 (.slice p xs.length cap) xs.length (xs.flatMap cellsI), Rows9 xs, Gl te fz] (RetV (.bool true) []) := by
  have hw := works9_c te fz
  refine fn_ret (vs := [_, _]) Tryd.func11 rfl Tryd.ntmps11 (by simp) ?_
  repeat (first | (first | refine J_region ?_ | refine JL_nil ?_ | refine J_seq ?_ | refine J_block ?_ | refine J_skip ?_ | refine J_condF rfl ?_) | (first | ((first | refine JL_step rfl ?_); first | refine JO_callE rfl newwriter_B rfl (fun w _ => ?_) | refine JO_q (by simp) (JQ_eqP rfl) rfl ?_ | refine JO_move rfl rfl ?_ | refine JO_assign rfl rfl ?_ | refine JO_not rfl rfl ?_ | refine JO_callVP rfl (hw) rfl ?_)))
  refine J_heap (rows9_nil.trans (own0 (e := 57) (sz := 6))) ?_
  refine J_inX (α := { y : Value × List YI // y.2.length ≤ 10 ∧ y.1.oneCell' = true ∧ ∀ z ∈ y.2, FitY z }) (fun y => [(1, str s), (5, ptr w), (6, y.1.1)]) (fun y => [Gl te fz, WrB w (y.1.2.flatMap encY), OwnS 57 6 y.1.1 y.1.2.length (y.1.2.flatMap cellsI), Rows9 y.1.2]) ?_ ?_
  · refine J_loop (β := { y : Nat × Value × List YI // y.1 ≤ 10 ∧ y.1 ≤ xs.length ∧ y.2.2.length ≤ y.1 ∧ y.2.1.oneCell' = true ∧ ∀ z ∈ y.2.2, FitY z }) (fun y => [(0, .slice p xs.length cap), (1, str s), (5, ptr w), (6, y.1.2.1), (7, .int .i64 (y.1.1 : Int))]) (fun _ => []) (fun y => [Vw 6 (.slice p xs.length cap) xs.length (xs.flatMap cellsI), Rows9 xs, Gl te fz, WrB w (y.1.2.2.flatMap encY), OwnS 57 6 y.1.2.1 y.1.2.2.length (y.1.2.2.flatMap cellsI), Rows9 y.1.2.2]) (fun y => 10 - y.1.1) ⟨(0, .slice none 0 0, []), by simp, by simp, by simp, rfl, by simp⟩ ?_ rfl (by simp only [List.flatMap_nil, List.length_nil]; exact Ent.sel) ?_
    · (repeat (first | exact sub_nil _ | refine sub_cons rfl ?_))
    rintro ⟨⟨i, v, ys⟩, h1, h2, h3, h4, h5⟩
    dsimp only at h1 h2 h3 h4 h5 ⊢
    by_cases hi : i < xs.length ∧ i < 10
    · obtain ⟨hi1, hi2⟩ := hi
      obtain ⟨x, hxi⟩ : ∃ x, xs[i]? = some x := ⟨_, List.getElem?_eq_getElem hi1⟩
      have hxm : x ∈ xs := List.mem_of_getElem? hxi
      obtain ⟨hcx, hax⟩ := hx x hxm
      refine J_front (Rows9 xs) ?_
      refine J_open (pers_rows9 xs) (rows9_at hxm) fun _ => ?_
      simp only [List.cons_append, List.nil_append]
      repeat (first | (first | refine J_region ?_ | refine JL_nil ?_ | refine J_seq ?_ | refine J_block ?_ | refine J_skip ?_ | refine J_condT rfl ?_) | (first | ((first | refine JL_step rfl ?_ | refine JL_take rfl rfl ?_); first | refine JO_q (by simp) (JQ_lssT rfl rfl (by omega)) rfl ?_ | refine JO_move rfl rfl ?_ | refine JO_len rfl rfl ?_ | refine JO_pickT rfl rfl rfl ?_)))
      refine JL_step rfl (JO_indexV rfl rfl hi1 rfl fun b o hl => ?_)
      refine JL_step rfl (JO_loadAL (cellsI x) rfl (fun j u hu => hl j u (by have := (List.getElem?_eq_some_iff.1 hu).1; exact this) (by rw [flat_get cellsI_len _ _ _ _ (by have := (List.getElem?_eq_some_iff.1 hu).1; exact this) hxi]; exact hu)) rfl rfl ?_)
      have hfw := few_c x.1 x.2.1 x.2.2 hcx
      obtain ⟨l1, l2⟩ := few_len x.1
      rw [← few_a x.1] at hax
      obtain ⟨x1, xp, xc⟩ := x
      dsimp only at *
      generalize fewI x1 = y at *
      have hcy : y.l.length ≤ xc := by omega
      have hck := check_c y xp xc hcy (by omega)
      have hlen := wlen_B w (ys.flatMap encY)
      have hel := encs_len h5
      rcases chk_cases y with h0 | ⟨n, hn24, hn, hfit, h0⟩
      · have hp := put_badK w (ys.flatMap encY) y xp xc hcy (by omega) h0
        generalize chkA y = e at *
        repeat (first | (first | refine J_region ?_ | refine JL_nil ?_ | refine J_seq ?_ | refine J_skip ?_ | refine J_condF rfl ?_) | (first | ((first | refine JL_step rfl ?_ | refine JL_take rfl rfl ?_); first | refine JO_storeW rfl rfl (by rfl) (by rfl) (ins_one rfl) rfl ?_ | refine JO_q (by simp) (JQ_gtrF rfl rfl (by omega)) rfl ?_ | refine JO_q (by simp) (JQ_eqF rfl rfl (by omega)) rfl ?_ | refine JO_q (by simp) (JQ_neF rfl rfl (by omega)) rfl ?_ | refine JO_q (by simp) (JQ_neB0 rfl rfl) rfl ?_ | refine JO_addN (b := 1) rfl rfl (by omega) rfl ?_ | refine JO_move rfl rfl ?_ | refine JO_assign rfl rfl ?_ | refine JO_loadW rfl (by rfl) rfl ?_ | refine JO_pickF rfl rfl rfl ?_ | refine JO_allocA rfl (fun r => ?_) | refine JO_callVP rfl (hfw) rfl ?_ | refine JO_callV' rfl (hlen) rfl ?_ | refine JO_callV' rfl (hp) rfl ?_ | refine JO_callVP rfl (hck) rfl ?_)))
        exact ⟨⟨(i + 1, v, ys), by simp only; omega, by simp only; omega, by simp only; omega, h4, h5⟩, by simp only; omega, by (repeat (first | exact sub_nil _ | refine sub_cons rfl ?_)), rfl, Ent.sel⟩
      · have hp := put_okK w (ys.flatMap encY) y xp xc hcy (by omega) (by omega) hax hn hn24 hfit
        have hY : FitY (y, xp, xc) := by unfold FitY; exact ⟨n, hn24, hn, hfit, hax, l2, hcy⟩
        have hel1 := encY_len hY
        rw [← encY_of (z := (y, xp, xc)) hn] at hp
        rw [h0] at hck
        generalize hP : ys.flatMap encY ++ encY (y, xp, xc) = P1 at *
        have hP1 : P1.length = (ys.flatMap encY).length + (encY (y, xp, xc)).length := by rw [← hP, List.length_append]
        have hlen1 := wlen_B w P1
        repeat (first | (first | refine J_region ?_ | refine JL_nil ?_ | refine J_seq ?_ | refine J_condT rfl ?_) | (first | ((first | refine JL_step rfl ?_); first | refine JO_storeW rfl rfl (by rfl) (by rfl) (ins_one rfl) rfl ?_ | refine JO_q (by simp) (JQ_eqT rfl rfl (by omega)) rfl ?_ | refine JO_move rfl rfl ?_ | refine JO_assign rfl rfl ?_ | refine JO_loadW rfl (by rfl) rfl ?_ | refine JO_buildSlice rfl rfl rfl (by decide) rfl (fun r => ?_) | refine JO_allocA rfl (fun r => ?_) | refine JO_callVP rfl (hfw) rfl ?_ | refine JO_callV' rfl (hlen) rfl ?_ | refine JO_callV' rfl (hp) rfl ?_)))
        refine JL_step rfl (JO_append (sz := 6) (n := ys.length) (m := 1) (news := cellsI (y, xp, xc)) rfl rfl rds_block rfl (by decide) rfl (ins_one rfl) (Nat.le_trans (Nat.mul_le_mul_right _ (show ys.length + 1 ≤ 11 by omega)) (by decide)) (by decide) rfl fun v' hv' => ?_)
        repeat (first | (first | refine J_region ?_ | refine JL_nil ?_ | refine J_seq ?_ | refine J_skip ?_ | refine J_condF rfl ?_) | (first | ((first | refine JL_step rfl ?_ | refine JL_take rfl rfl ?_); first | refine JO_q (by simp) (JQ_gtrT rfl rfl (by omega)) rfl ?_ | refine JO_q (by simp) (JQ_eqT rfl rfl (by omega)) rfl ?_ | refine JO_q (by simp) (JQ_neF rfl rfl (by omega)) rfl ?_ | refine JO_q (by simp) (JQ_neB0 rfl rfl) rfl ?_ | refine JO_addN (b := 1) rfl rfl (by omega) rfl ?_ | refine JO_move rfl rfl ?_ | refine JO_assign rfl rfl ?_ | refine JO_loadW rfl (by rfl) rfl ?_ | refine JO_pickF rfl rfl rfl ?_ | refine JO_callV' rfl (hlen1) rfl ?_ | refine JO_callVP rfl (hck) rfl ?_)))
        refine ⟨⟨(i + 1, v', ys ++ [(y, xp, xc)]), by simp only; omega, by simp only; omega, by simp only [List.length_append, List.length_singleton]; omega, hv', fun z hz => ?_⟩, by simp only; omega, by (repeat (first | exact sub_nil _ | refine sub_cons rfl ?_)), rfl, ?_⟩
        · rw [List.mem_append, List.mem_singleton] at hz
          rcases hz with hz | rfl
          · exact h5 z hz
          · exact hY
        · simp only [List.flatMap_append, List.flatMap_singleton, List.length_append, List.length_singleton]
          rw [hP]
          exact Ent.trans (Ent.sel (K := [Rows9 ys, Vw 1 (.slice xp y.l.length xc) y.l.length (ints y.l), Vw 6 (.slice p xs.length cap) xs.length (xs.flatMap cellsI), Rows9 xs, Gl te fz, WrB w P1, OwnS 57 6 v' (ys.length + 1) (ys.flatMap cellsI ++ cellsI (y, xp, xc))])) ((rows9_snoc (y := (y, xp, xc))).trans Ent.sel)
    · by_cases hi3 : i < xs.length
      · repeat (first | (first | refine J_region ?_ | refine JL_nil ?_ | refine J_seq ?_ | refine J_condF rfl ?_ | refine J_exit ?_) | (first | ((first | refine JL_step rfl ?_ | refine JL_take rfl rfl ?_); first | refine JO_q (by simp) (JQ_lssT rfl rfl (by omega)) rfl ?_ | refine JO_q (by simp) (JQ_lssF rfl rfl (by omega)) rfl ?_ | refine JO_move rfl rfl ?_ | refine JO_len rfl rfl ?_ | refine JO_pickT rfl rfl rfl ?_)))
        exact ⟨⟨(v, ys), by simp only; omega, h4, h5⟩, by (repeat (first | exact sub_nil _ | refine sub_cons rfl ?_)), rfl, Ent.sel⟩
      · repeat (first | (first | refine J_region ?_ | refine JL_nil ?_ | refine J_seq ?_ | refine J_condF rfl ?_ | refine J_exit ?_) | (first | ((first | refine JL_step rfl ?_); first | refine JO_q (by simp) (JQ_lssF rfl rfl (by omega)) rfl ?_ | refine JO_move rfl rfl ?_ | refine JO_len rfl rfl ?_ | refine JO_pickF rfl rfl rfl ?_) | refine JL_pass rfl rfl rfl ?_))
        exact ⟨⟨(v, ys), by simp only; omega, h4, h5⟩, by (repeat (first | exact sub_nil _ | refine sub_cons rfl ?_)), rfl, Ent.sel⟩
  rintro ⟨⟨v, ys⟩, h1, h2, h3⟩
  dsimp only at h1 h2 h3 ⊢
  have hel := encs_len h3
  have hwt := wtext_B w (ys.flatMap encY)
  repeat (first | (first | refine J_region ?_ | refine JL_nil ?_ | refine J_seq ?_ | refine J_block ?_ | refine J_skip ?_ | refine J_condF rfl ?_) | (first | ((first | refine JL_step rfl ?_); first | refine JO_callE rfl (newreader_B (ys.flatMap encY) (Nat.le_trans (show (ys.flatMap encY).length ≤ 1310 by omega) (by decide))) rfl (fun r _ => ?_) | refine JO_q (by simp) (JQ_eqP rfl) rfl ?_ | refine JO_move rfl rfl ?_ | refine JO_assign rfl rfl ?_ | refine JO_callV' rfl (hwt) rfl ?_)))
  rename_i r _
  refine J_front (OwnS 57 6 v ys.length (ys.flatMap cellsI)) ?_
  refine J_viewc (fun p' cap' hv hcp => ?_)
  subst hv
  refine J_loop (β := { y : Nat × Int // y.1 ≤ ys.length ∧ 0 ≤ y.2 ∧ y.2 + ((ys.drop y.1).flatMap encY).length ≤ 2000 }) (fun y => [(1, str s), (6, .slice p' ys.length cap'), (11, ptr r), (12, .int .i64 (y.1.1 : Int))]) (fun _ => []) (fun y => [Gl te fz, Vw 6 (.slice p' ys.length cap') ys.length (ys.flatMap cellsI), Rows9 ys, RdB r ((ys.drop y.1.1).flatMap encY) y.1.2]) (fun y => ys.length - y.1.1) ⟨(0, 0), by simp, by simp, by simp only [List.drop_zero]; omega⟩ ?_ rfl (by simp only [List.drop_zero]; exact Ent.sel) ?_
  · (repeat (first | exact sub_nil _ | refine sub_cons rfl ?_))
  rintro ⟨⟨j, pl⟩, g1, g2, g3⟩
  dsimp only at g1 g2 g3 ⊢
  by_cases hj : j < ys.length
  · obtain ⟨z, hz⟩ : ∃ z, ys[j]? = some z := ⟨_, List.getElem?_eq_getElem hj⟩
    have hzm : z ∈ ys := List.mem_of_getElem? hz
    have hFz := h3 z hzm
    have hd : ys.drop j = z :: ys.drop (j + 1) := by
      rw [List.drop_eq_getElem_cons hj]
      congr 1
      rw [List.getElem?_eq_getElem hj] at hz
      exact Option.some.inj hz
    rw [hd, List.flatMap_cons] at g3 ⊢
    have hzl := (encY_len hFz).2
    rw [List.length_append] at g3
    have hr := fun (n : Nat) (a1 : n ≤ 24) (a2 : z.1.op = (n : Int)) (a3 : fitsP (rowOf n).1 z.1) a4 => read_lay a1 a2 a3 a4 ((ys.drop (j + 1)).flatMap encY) pl
    have hF2 := hFz
    unfold FitY at hF2
    obtain ⟨n, a1, a2, a3, a4, a5, a6⟩ := hF2
    have hr := hr n a1 a2 a3 a4
    rw [← encY_of a2] at hr
    have hrd := read_ok r _ pl ⟨g2, by rw [List.length_append]; omega⟩ hr
    refine J_front (Rows9 ys) ?_
    refine J_open (pers_rows9 ys) (rows9_at hzm) fun _ => ?_
    simp only [List.cons_append, List.nil_append]
    refine J_front (Vw 6 (.slice p' ys.length cap') ys.length (ys.flatMap cellsI)) ?_
    refine J_fact (φ := ∃ b o, p' = some ⟨b, o, none⟩) (fun F w hs => hs.tail.out (fun k hk => vw_place (by omega) k hk)) (fun hp => ?_)
    obtain ⟨b, o, rfl⟩ := hp
    repeat (first | (first | refine J_region ?_ | refine JL_nil ?_ | refine J_seq ?_ | refine J_block ?_ | refine J_skip ?_ | refine J_condT rfl ?_) | (first | ((first | refine JL_step rfl ?_); first | refine JO_q (by simp) (JQ_lssT rfl rfl (by omega)) rfl ?_ | refine JO_callE rfl hrd rfl (fun y hy => ?_) | refine JO_storeW rfl rfl (by rfl) (by rfl) (ins_one rfl) rfl ?_ | refine JO_move rfl rfl ?_ | refine JO_assign rfl rfl ?_ | refine JO_len rfl rfl ?_ | refine JO_extract rfl rfl rfl ?_ | refine JO_allocA rfl (fun r => ?_))))
    have hsm := lsame_c z.1 y.1 z.2.1 y.2 z.2.2 (by omega)
    repeat (first | refine J_regionG ?_ | refine JG_fin rfl ?_ | refine JG_n rfl rfl rfl (by kernel_rfl) (by kernel_rfl) rfl Ent.sel (by first | exact JQ_neIf0 rfl | exact JQ_index rfl rfl hj | exact JQ_loadA (insC z.1 (.slice y.1 z.1.l.length y.2)) rfl (fun i u hu => lds_block (by rw [Nat.zero_add]; exact hu)) rfl | exact JQ_loadA (cellsI z) rfl (fun i u hu => lds_vwA (n := ys.length) (cap := cap') (j := j) hj (by rw [flat_get cellsI_len _ _ _ _ (by have := (List.getElem?_eq_some_iff.1 hu).1; exact this) hz]; exact hu)) rfl | exact JQ_move rfl | exact JQ_pickF rfl rfl | exact JQ_not rfl) ?_ | refine JG_nW rfl rfl rfl rfl (by kernel_rfl) (by kernel_rfl) rfl Ent.sel (by first | exact JQ_index rfl rfl hj | exact JQ_loadA (insC z.1 (.slice y.1 z.1.l.length y.2)) rfl (fun i u hu => lds_block (by rw [Nat.zero_add]; exact hu)) rfl | exact JQ_loadA (cellsI z) rfl (fun i u hu => lds_vwA (n := ys.length) (cap := cap') (j := j) hj (by rw [flat_get cellsI_len _ _ _ _ (by have := (List.getElem?_eq_some_iff.1 hu).1; exact this) hz]; exact hu)) rfl | exact JQ_move rfl | exact JQ_not rfl) ?_ | refine JG_jo rfl rfl rfl tame_call (JO_callVP rfl (hsm) rfl ⟨Ent.sel, ?_⟩))
    repeat (first | (first | refine J_region ?_ | refine JL_nil ?_ | refine J_skip ?_ | refine J_condF rfl ?_) | (first | ((first | refine JL_step rfl ?_); first | refine JO_addN (b := 1) rfl rfl (by omega) rfl ?_ | refine JO_move rfl rfl ?_ | refine JO_assign rfl rfl ?_)))
    exact ⟨⟨(j + 1, pl + (encY z).length), by simp only; omega, by simp only; omega, by simp only; omega⟩, by simp only; omega, by (repeat (first | exact sub_nil _ | refine sub_cons rfl ?_)), rfl, Ent.sel⟩
  obtain rfl : j = ys.length := by omega
  have he := end_okB r pl
  rw [List.drop_length, List.flatMap_nil]
  have hmn : min s.length 200 ≤ s.length := Nat.min_le_left _ _
  have hl : (s.take (min s.length 200)).length ≤ 200 := by rw [List.length_take]; omega
  have hl2 : (s.take (min s.length 200)).length ≤ maxLen := Nat.le_trans hl (by decide)
  generalize hsm : s.take (min s.length 200) = m at *
  repeat (first | (first | refine J_region ?_ | refine JL_nil ?_ | refine J_seq ?_ | refine J_block ?_ | refine J_skip ?_ | refine J_condF rfl ?_ | refine J_exit ?_) | (first | ((first | refine JL_step rfl ?_); first | refine JO_q (by simp) (JQ_lssF rfl rfl (by omega)) rfl ?_ | refine JO_q (by simp) (JQ_neIf0 rfl) rfl ?_ | refine JO_q (by simp) (JQ_lenB rfl) rfl ?_ | refine JO_minN (n := 200) rfl rfl rfl ?_ | refine JO_q (by simp) (JQ_headE rfl rfl hmn hsm) rfl ?_ | refine JO_callE rfl (newreader_B m hl2) rfl (fun q _ => ?_) | refine JO_q (by simp) (JQ_eqP rfl) rfl ?_ | refine JO_move rfl rfl ?_ | refine JO_assign rfl rfl ?_ | refine JO_len rfl rfl ?_ | refine JO_callV' rfl (he) rfl ?_)))
  rename_i q _
  refine J_loop (β := { k : Nat // k ≤ m.length }) (fun k => [(1, str m), (15, ptr q)]) (fun _ => []) (fun k => [Gl te fz, RdB q (m.drop k.1) (k.1 : Int)]) (fun k => m.length - k.1) ⟨0, by simp⟩ ?_ rfl (by simp only [List.drop_zero]; exact Ent.sel) ?_
  · (repeat (first | exact sub_nil _ | refine sub_cons rfl ?_))
  rintro ⟨k, hk⟩
  dsimp only
  have hlf := left_B q (m.drop k) (k : Int)
  have hpc := place_B q (m.drop k) (k : Int)
  have hdl : (m.drop k).length = m.length - k := List.length_drop ..
  by_cases hkm : k < m.length
  · obtain ⟨r1, r2, r3⟩ := read_pl (m.drop k) (k : Int) (by omega)
    have r3 := r3 (by intro h; rw [h] at hdl; simp at hdl; omega)
    by_cases hc : (readR (m.drop k) (k : Int)).c = 0
    · have ha := read_a hc
      obtain ⟨n, b1, b2, b3, b4, b5⟩ := read_inv hc
      have hR : readR (m.drop k) (k : Int) = ⟨(readR (m.drop k) (k : Int)).x, 0, 0, (readR (m.drop k) (k : Int)).bs, (readR (m.drop k) (k : Int)).pl⟩ := by
        have h : ∀ R : RdR, R.c = 0 → R.a = 0 → R = ⟨R.x, 0, 0, R.bs, R.pl⟩ := by
          rintro ⟨_, _, _, _, _⟩ rfl rfl
          rfl
        exact h _ hc ha
      have hlen := read_len (m.drop k) (k : Int)
      have hrd := read_ok q _ (k : Int) ⟨by omega, by omega⟩ hR
      generalize readR (m.drop k) (k : Int) = R at *
      rcases R with ⟨x, c, a, bs2, pl2⟩
      dsimp only at *
      obtain ⟨k2, rfl⟩ := Int.eq_ofNat_of_zero_le (show 0 ≤ pl2 by omega)
      have hb5 := congrArg List.length b5
      rw [List.length_append] at hb5
      have hcut : (m.take k2).drop k = bytesL (rowOf n) x := by
        rw [List.drop_take, b5, List.take_append_of_le_length (by omega), List.take_of_length_le (by omega)]
      have hd2 : m.drop k2 = bs2 := by
        have e : m.drop k2 = (m.drop k).drop (k2 - k) := by rw [List.drop_drop]; congr 1; omega
        rw [e, b5, List.drop_append_of_le_length (by omega), List.drop_of_length_le (by omega), List.nil_append]
      have hp2 := place_B q bs2 (k2 : Int)
      repeat (first | (first | refine J_region ?_ | refine JL_nil ?_ | refine J_seq ?_ | refine J_block ?_ | refine J_skip ?_ | refine J_condT rfl ?_ | refine J_condF rfl ?_) | (first | ((first | refine JL_step rfl ?_); first | refine JO_q (by simp) (JQ_gtrT rfl rfl (by omega)) rfl ?_ | refine JO_callE rfl hrd rfl (fun y hy => ?_) | refine JO_storeW rfl rfl (by rfl) (by rfl) (ins_one rfl) rfl ?_ | refine JO_q (by simp) (JQ_neIf0 rfl) rfl ?_ | refine JO_move rfl rfl ?_ | refine JO_assign rfl rfl ?_ | refine JO_extract rfl rfl rfl ?_ | refine JO_allocA rfl (fun r => ?_) | refine JO_callV' rfl (hlf) rfl ?_ | refine JO_callV' rfl (hpc) rfl ?_)))
      have hby := bytes_ok x y.1 y.2 hy (by omega) b4 b2 b1 b3
      repeat (first | (first | refine JL_nil ?_ | refine J_skip ?_ | refine J_condF rfl ?_) | (first | ((first | refine JL_step rfl ?_ | refine JL_take rfl rfl ?_); first | refine JO_q (by simp) (JQ_leqF rfl rfl (by omega)) rfl ?_ | refine JO_q (by simp) (JQ_sliceSE rfl rfl rfl (show k ≤ k2 by omega) (show k2 ≤ m.length by omega) hcut) rfl ?_ | refine JO_q (by simp) (JQ_neS0 rfl rfl) rfl ?_ | refine JO_move rfl rfl ?_ | refine JO_loadW rfl (by rfl) rfl ?_ | refine JO_pickF rfl rfl rfl ?_ | refine JO_callV' rfl (hp2) rfl ?_ | refine JO_callVP rfl (hby) rfl ?_)))
      exact ⟨⟨k2, by omega⟩, by simp only; omega, by (repeat (first | exact sub_nil _ | refine sub_cons rfl ?_)), rfl, by simp only [hd2]; exact Ent.sel⟩
    · have hE := read_err hc
      have hrd := read_bad q _ (k : Int) ⟨by omega, by omega⟩ hE hc
      repeat (first | (first | refine J_region ?_ | refine JL_nil ?_ | refine J_seq ?_ | refine J_block ?_ | refine J_skip ?_ | refine J_condT rfl ?_) | (first | ((first | refine JL_step rfl ?_); first | refine JO_q (by simp) (JQ_gtrT rfl rfl (by omega)) rfl ?_ | refine JO_callE rfl hrd rfl (fun y hy => ?_) | refine JO_storeW rfl rfl (by rfl) (by rfl) (ins_one rfl) rfl ?_ | refine JO_q (by simp) (JQ_neIf1 rfl) rfl ?_ | refine JO_move rfl rfl ?_ | refine JO_assign rfl rfl ?_ | refine JO_loadW rfl (by rfl) rfl ?_ | refine JO_extract rfl rfl rfl ?_ | refine JO_allocA rfl (fun r => ?_) | refine JO_callV' rfl (hlf) rfl ?_ | refine JO_callV' rfl (hpc) rfl ?_)))
      have hsm : Ct Tryd.prog 42 #[.agg (insC zeroI (.slice y.2.1 0 y.2.2)).toArray, .agg (insC zeroI (.slice none 0 0)).toArray] [Vw 1 (.slice y.2.1 0 y.2.2) 0 (ints []), Vw 1 (.slice none 0 0) 0 (ints [])] (RetV (.bool true) []) := lsame_c zeroI y.2.1 none y.2.2 0 (by decide)
      refine JL_heap vw0 ?_
      repeat (first | (first | refine JL_nil ?_ | refine J_ret ?_) | (first | ((first | refine JL_step rfl ?_); first | refine JO_build (cs := insC zeroI (.slice none 0 0)) rfl rfl rfl ?_ | refine JO_assign rfl rfl ?_ | refine JO_callVP rfl (hsm) rfl ?_)))
      exact ret_oneV rfl rfl Ent.sel
  · obtain rfl : k = m.length := by omega
    repeat (first | (first | refine J_region ?_ | refine JL_nil ?_ | refine J_seq ?_ | refine J_condF rfl ?_ | refine J_exit ?_ | refine J_ret ?_) | (first | ((first | refine JL_step rfl ?_); first | refine JO_q (by simp) (JQ_gtrF rfl rfl (by omega)) rfl ?_ | refine JO_move rfl rfl ?_ | refine JO_assign rfl rfl ?_ | refine JO_callV' rfl (hlf) rfl ?_)))
    exact ret_oneV rfl rfl Ent.sel
end Go.Proofs.YtfelcdbhlahehaaDoor

/- What InsnBack is handed. -/
namespace Go.Proofs.YtfelcdbhlahehaaDoor
open Go Go.Sp Go.ChangeShapes Go.WideShapes Go.ChangeAt Go.RowKit
section
variable {H : Type} {enc : TypeId × Value → H} {W : World} {base : Nat} {sp : Nat → Bool} {held : Bool}
set_option maxRecDepth 20000 in
theorem read_code9 {v : Value} {d : DataW H} {ps : List MemPlace} {r : Go.Reach} {b0 : Nat} (hv : Value.okWide Tryd.prog W r b0 70 v) (h : DataW.Trod enc Tryd.prog W base sp held 70 v d ps) :
    ∃ (p : Option Addr) (cap : Nat) (xs : List YI), v = .slice p xs.length cap ∧ (∀ x ∈ xs, x.1.l.length ≤ x.2.2 ∧ (-9223372036854775808 ≤ x.1.a ∧ x.1.a ≤ 9223372036854775807)) ∧ (∀ k, Base W k → Vw 6 (.slice p xs.length cap) xs.length (xs.flatMap cellsI) k) ∧ (∀ k, Base W k → Rows9 xs k) := by
  obtain ⟨n, hn⟩ := h
  have hv2 : ∃ p len cap, v = .slice p len cap := by
    have hv' := hv
    unfold Value.okWide at hv'
    rw [Tryd.underlying70] at hv'
    simp only [Cell.okWide, Tryd.underlying70, Cell.ok] at hv'
    split at hv' <;> simp_all
  obtain ⟨p0, l0, c0, rfl⟩ := hv2
  obtain ⟨p, len, cap, css, Ds, h1, h2, h3, h4, h4', h5, h6, h7⟩ := read_slice Tryd.underlying70 ceInsn (by decide) hn
  obtain ⟨ys, hy, hw⟩ := list_pick cellsI (fun D y => ReadI W D y) css Ds (by omega) (fun i c D hc hd => by
    obtain ⟨_, m, q, hq⟩ := h6 i c D hc hd
    exact read_insn hq)
  have hl : ys.length = len := by rw [← h2, hy]; simp
  have hall : ∀ x ∈ ys, ∃ D, ReadI (H := H) W D x := fun x hx => by
    obtain ⟨i, hi, rfl⟩ := List.mem_iff_getElem.1 hx
    exact ⟨_, hw i _ Ds[i] (List.getElem?_eq_getElem hi) (List.getElem?_eq_getElem (by omega))⟩
  cases h1
  subst hl
  refine ⟨p0, c0, ys, rfl, fun x hx => ?_, fun k hk => ?_, fun k hk x hx => ?_⟩
  · obtain ⟨D, g1, g2, _⟩ := hall x hx
    exact ⟨g1, g2⟩
  · rw [List.flatMap_def, ← hy]
    exact h5 k hk
  · obtain ⟨D, _, _, g3⟩ := hall x hx
    exact g3 k hk
end
end Go.Proofs.YtfelcdbhlahehaaDoor
