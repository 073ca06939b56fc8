/- Layer 3: the plain law of sections. -/
import Derived.Test.YtfelcdbhlahehaaDoorM5
import Derived.Test.YtfelcdbhlahehaaDoorM10
import Derived.Test.YtfelcdbhlahehaaDoorM13
import Derived.Test.YtfelcdbhlahehaaDoorM6
import Derived.Test.YtfelcdbhlahehaaDoorM12
import Derived.Test.YtfelcdbhlahehaaDoorM14
namespace Go.Proofs.YtfelcdbhlahehaaDoor
open Go Go.Sp
theorem grab_ne {k : Nat} {bs ts r : List UInt8} (h : grab (k + 1) bs = some (ts, r)) : ts ≠ [] := by
  cases bs with
  | nil => simp [grab] at h
  | cons b bs =>
    simp only [grab] at h
    split at h
    · cases h; simp
    · cases hg : grab k bs with
      | none => rw [hg] at h; simp at h
      | some x => rw [hg] at h; simp at h; rw [← h.1]; simp
theorem not_wrong {ts : List UInt8} (h : wrongL ts = false) : lastN ts < 128 ∧ (1 < ts.length → lastN ts ≠ 0) := by
  simp only [wrongL, Bool.or_eq_false_iff, Bool.and_eq_false_iff, decide_eq_false_iff_not] at h
  exact ⟨by omega, fun hl => by rcases h.2 with h2 | h2 <;> omega⟩
/-- What is read without a fault are a number's own bytes. -/
theorem uA_inv {bs : List UInt8} {pl : Int} (h : (uA bs pl).c = 0) : bs = encU (uA bs pl).n ++ (uA bs pl).rest ∧ (uA bs pl).pl = pl + (encU (uA bs pl).n).length := by
  unfold uA at h ⊢
  split at h
  · simp at h
  · rename_i ts r hg
    split at h
    · simp at h
    · rename_i hw
      have h0 := (grab_some _ _ _ _ hg).1
      have h1 := not_wrong (by simpa using hw)
      have h2 := (enc_val 10 bs ts r hg (grab_ne hg) h1.1 h1.2).1
      rw [if_neg hw]
      simp only [h2]
      exact ⟨h0, trivial⟩
/-- A section's answer. -/
structure SecA where
  part : List UInt8
  at_ : Int
  c : Int
  a : Int
  rest : List UInt8
  pl : Int
def secA (id : UInt8) (bs : List UInt8) (pl : Int) : SecA := match bs with
  | [] => ⟨[], 0, 3, pl, [], pl⟩
  | x :: t =>
    if x ≠ id then ⟨[], 0, 7, pl, t, pl + 1⟩
    else if (smA t (pl + 1) 65536).2.1 ≠ 0 then ⟨[], 0, (smA t (pl + 1) 65536).2.1, (smA t (pl + 1) 65536).2.2, (uA t (pl + 1)).rest, (uA t (pl + 1)).pl⟩
    else if (uA t (pl + 1)).rest.length < (smA t (pl + 1) 65536).1 then ⟨[], 0, 3, (uA t (pl + 1)).pl, (uA t (pl + 1)).rest, (uA t (pl + 1)).pl⟩
    else ⟨(uA t (pl + 1)).rest.take (smA t (pl + 1) 65536).1, (uA t (pl + 1)).pl, 0, 0, (uA t (pl + 1)).rest.drop (smA t (pl + 1) 65536).1, (uA t (pl + 1)).pl + (smA t (pl + 1) 65536).1⟩
def secL (id : UInt8) (t : List UInt8) : List UInt8 := id :: (encU t.length ++ t)
theorem secA_lay (id : UInt8) (t r : List UInt8) (pl : Int) (h : t.length ≤ 65536) : secA id (secL id t ++ r) pl = ⟨t, pl + 1 + (encU t.length).length, 0, 0, r, pl + (secL id t).length⟩ := by
  have hu : uA (encU t.length ++ (t ++ r)) (pl + 1) = _ := uA_enc (by omega) (t ++ r) (pl + 1)
  have hs : smA (encU t.length ++ (t ++ r)) (pl + 1) 65536 = (t.length, 0, 0) := by
    unfold smA
    rw [hu]
    simp only [ne_eq, not_true, if_false]
    rw [if_neg (by omega)]
  simp only [secL, List.cons_append, List.append_assoc, secA, ne_eq, not_true, if_false, hs, hu]
  have h1 : ¬ (t ++ r).length < t.length := by simp
  rw [if_neg h1]
  simp only [SecA.mk.injEq, List.take_left, List.drop_left, true_and, List.length_cons, List.length_append]
  omega
theorem secA_inv {id : UInt8} {bs : List UInt8} {pl : Int} (h : (secA id bs pl).c = 0) :
    bs = secL id (secA id bs pl).part ++ (secA id bs pl).rest ∧ (secA id bs pl).part.length ≤ 65536 ∧ (secA id bs pl).pl = pl + (secL id (secA id bs pl).part).length ∧ (secA id bs pl).at_ + (secA id bs pl).part.length = (secA id bs pl).pl ∧ pl ≤ (secA id bs pl).at_ := by
  cases bs with
  | nil => simp [secA] at h
  | cons x t =>
    unfold secA at h ⊢
    simp only at h ⊢
    split at h
    · simp at h
    · rename_i hx
      split at h
      · rename_i h1; exact absurd h h1
      · rename_i h1
        split at h
        · simp at h
        · rename_i h2
          rw [if_neg hx, if_neg h1, if_neg h2]
          have hc : (uA t (pl + 1)).c = 0 := by
            apply Classical.byContradiction
            intro hc
            exact h1 (by unfold smA; rw [if_pos hc]; exact hc)
          have hm : ((uA t (pl + 1)).n : Int) ≤ 65536 := by
            apply Classical.byContradiction
            intro hm
            exact h1 (by unfold smA; rw [if_neg (by simpa using hc), if_pos (by omega)]; simp)
          have hs : smA t (pl + 1) 65536 = ((uA t (pl + 1)).n, 0, 0) := by unfold smA; rw [if_neg (by simpa using hc), if_neg (by omega)]
          rw [hs] at h2 ⊢
          obtain ⟨h3, h4⟩ := uA_inv hc
          have hx' : x = id := by simpa using hx
          have hl : ((uA t (pl + 1)).rest.take (uA t (pl + 1)).n).length = (uA t (pl + 1)).n := by rw [List.length_take]; omega
          simp only [secL, hl, List.cons_append, List.append_assoc, List.take_append_drop, List.length_cons, List.length_append]
          rw [h4, ← h3, hx']
          exact ⟨rfl, by omega, by push_cast; omega, trivial, by omega⟩
theorem secA_pl (id : UInt8) (bs : List UInt8) (pl : Int) : (secA id bs pl).pl + (secA id bs pl).rest.length = pl + bs.length ∧ pl ≤ (secA id bs pl).pl := by
  cases bs with
  | nil => simp [secA]
  | cons x t =>
    have h := uA_ok t (pl + 1)
    unfold secA
    simp only
    split
    · simp; omega
    · split
      · simp; omega
      · split
        · simp; omega
        · simp only [List.length_drop, List.length_cons]; omega
/-- The head. -/
def headL : List UInt8 := [67, 76, 81, 89, 1]
def begA : List UInt8 → List UInt8 → Int → Int × Int
  | [], _, _ => (0, 0)
  | _ :: _, [], p => (6, p)
  | c :: h, x :: b, p => if x = c then begA h b (p + 1) else (6, p)
theorem begA_lay : ∀ (h r : List UInt8) (p : Int), begA h (h ++ r) p = (0, 0) := by
  intro h
  induction h with
  | nil => intro r p; rfl
  | cons c h ih => intro r p; simp [begA, ih]
theorem begA_inv : ∀ (h b : List UInt8) (p : Int), (begA h b p).1 = 0 → b = h ++ b.drop h.length := by
  intro h
  induction h with
  | nil => intro b p _; rfl
  | cons c h ih =>
    intro b p hb
    cases b with
    | nil => simp [begA] at hb
    | cons x b =>
      simp only [begA] at hb
      split at hb
      · rename_i hx
        rw [hx, List.length_cons, List.drop_succ_cons, List.cons_append, ← ih b _ hb]
      · simp at hb
/-- Splitting: the three texts with their places, and what is wrong. -/
def s1A (b : List UInt8) : SecA := secA 1 (b.drop 5) 5
def s2A (b : List UInt8) : SecA := secA 2 (s1A b).rest (s1A b).pl
def s3A (b : List UInt8) : SecA := secA 3 (s2A b).rest (s2A b).pl
def splE (b : List UInt8) : Int × Int :=
  if (begA headL b 0).1 ≠ 0 then begA headL b 0
  else if (s1A b).c ≠ 0 then ((s1A b).c, (s1A b).a)
  else if (s2A b).c ≠ 0 then ((s2A b).c, (s2A b).a)
  else if (s3A b).c ≠ 0 then ((s3A b).c, (s3A b).a)
  else endA (s3A b).rest (s3A b).pl
def splP (b : List UInt8) : List (List UInt8 × Int) := if (splE b).1 ≠ 0 then [] else [((s1A b).part, (s1A b).at_), ((s2A b).part, (s2A b).at_), ((s3A b).part, (s3A b).at_)]
/-- Joining. -/
def joinL (x y z : List UInt8) : List UInt8 := headL ++ (secL 1 x ++ (secL 2 y ++ secL 3 z))
theorem spl_lay (x y z r : List UInt8) (hx : x.length ≤ 65536) (hy : y.length ≤ 65536) (hz : z.length ≤ 65536) :
    (begA headL (joinL x y z ++ r) 0) = (0, 0) ∧ (s1A (joinL x y z ++ r)).c = 0 ∧ (s1A (joinL x y z ++ r)).part = x ∧ (s1A (joinL x y z ++ r)).at_ = 6 + (encU x.length).length ∧ (s2A (joinL x y z ++ r)).c = 0 ∧ (s2A (joinL x y z ++ r)).part = y ∧ (s2A (joinL x y z ++ r)).at_ = 6 + (secL 1 x).length + (encU y.length).length ∧ (s3A (joinL x y z ++ r)).c = 0 ∧ (s3A (joinL x y z ++ r)).part = z ∧ (s3A (joinL x y z ++ r)).at_ = 6 + (secL 1 x).length + (secL 2 y).length + (encU z.length).length ∧ (s3A (joinL x y z ++ r)).rest = r ∧ (s3A (joinL x y z ++ r)).pl = (joinL x y z).length := by
  have hd : (joinL x y z ++ r).drop 5 = secL 1 x ++ (secL 2 y ++ (secL 3 z ++ r)) := by simp [joinL, headL]
  have h1 := (congrArg (fun b => secA 1 b 5) hd).trans (secA_lay 1 x _ 5 hx)
  change s1A (joinL x y z ++ r) = _ at h1
  have h2 := (congrArg (fun s : SecA => secA 2 s.rest s.pl) h1).trans (secA_lay 2 y _ _ hy)
  change s2A (joinL x y z ++ r) = _ at h2
  have h3 := (congrArg (fun s : SecA => secA 3 s.rest s.pl) h2).trans (secA_lay 3 z _ _ hz)
  change s3A (joinL x y z ++ r) = _ at h3
  refine ⟨?_, ?_⟩
  · rw [show joinL x y z ++ r = headL ++ ((secL 1 x ++ (secL 2 y ++ secL 3 z)) ++ r) from by simp [joinL]]
    exact begA_lay _ _ _
  · rw [h1, h2, h3]
    refine ⟨rfl, rfl, ?_, rfl, rfl, ?_, rfl, rfl, ?_, rfl, ?_⟩
    · simp only; omega
    · simp only; omega
    · simp only; omega
    · simp only [joinL, List.length_append, headL, List.length_cons, List.length_nil]; push_cast; omega
theorem spl_join (x y z : List UInt8) (hx : x.length ≤ 65536) (hy : y.length ≤ 65536) (hz : z.length ≤ 65536) : splE (joinL x y z) = (0, 0) ∧ (splP (joinL x y z)).map Prod.fst = [x, y, z] := by
  have h := spl_lay x y z [] hx hy hz
  rw [List.append_nil] at h
  obtain ⟨h0, h1, h2, h3, h4, h5, h6, h7, h8, h9, h10, h11⟩ := h
  have he : splE (joinL x y z) = (0, 0) := by
    unfold splE
    simp [h0, h1, h4, h7, h10, endA]
  exact ⟨he, by unfold splP; simp [he, h2, h5, h8]⟩
theorem spl_more (x y z : List UInt8) (b : UInt8) (r : List UInt8) (hx : x.length ≤ 65536) (hy : y.length ≤ 65536) (hz : z.length ≤ 65536) : splE (joinL x y z ++ b :: r) = (4, ((joinL x y z).length : Int)) := by
  obtain ⟨h0, h1, h2, h3, h4, h5, h6, h7, h8, h9, h10, h11⟩ := spl_lay x y z (b :: r) hx hy hz
  unfold splE
  simp [h0, h1, h4, h7, h10, h11, endA]
theorem spl_inv {b : List UInt8} (h : (splE b).1 = 0) : ∃ x y z i j k, splP b = [(x, i), (y, j), (z, k)] ∧ b = joinL x y z ∧ x.length ≤ 65536 ∧ y.length ≤ 65536 ∧ z.length ≤ 65536 := by
  have h' := h
  unfold splE at h
  split at h
  · rename_i h0; exact absurd h h0
  · rename_i h0
    split at h
    · rename_i h1; exact absurd h h1
    · rename_i h1
      split at h
      · rename_i h2; exact absurd h h2
      · rename_i h2
        split at h
        · rename_i h3; exact absurd h h3
        · rename_i h3
          refine ⟨_, _, _, _, _, _, by unfold splP; rw [if_neg (by simpa using h')], ?_, ?_⟩
          · have a0 := begA_inv headL b 0 (by simpa using h0)
            have a1 := (secA_inv (show (secA 1 (b.drop 5) 5).c = 0 from Classical.not_not.1 h1)).1
            have a2 := (secA_inv (show (secA 2 (s1A b).rest (s1A b).pl).c = 0 from Classical.not_not.1 h2)).1
            have a3 := (secA_inv (show (secA 3 (s2A b).rest (s2A b).pl).c = 0 from Classical.not_not.1 h3)).1
            have a4 : (s3A b).rest = [] := by
              unfold endA at h
              split at h
              · rename_i h5; exact List.length_eq_zero_iff.1 h5
              · simp at h
            have a4' : (secA 3 (s2A b).rest (s2A b).pl).rest = [] := a4
            rw [a4', List.append_nil] at a3
            have a2' : (s1A b).rest = secL 2 (s2A b).part ++ (s2A b).rest := a2
            have a1' : b.drop 5 = secL 1 (s1A b).part ++ (s1A b).rest := a1
            have a0' : b = headL ++ b.drop 5 := a0
            have a3' : (s2A b).rest = secL 3 (s3A b).part := a3
            rw [a3'] at a2'
            rw [a2'] at a1'
            rw [a1'] at a0'
            exact a0'
          · exact ⟨(secA_inv (show (secA 1 (b.drop 5) 5).c = 0 from Classical.not_not.1 h1)).2.1, (secA_inv (show (secA 2 (s1A b).rest (s1A b).pl).c = 0 from Classical.not_not.1 h2)).2.1, (secA_inv (show (secA 3 (s2A b).rest (s2A b).pl).c = 0 from Classical.not_not.1 h3)).2.1⟩
/-- No beginning of a module is one. -/
theorem spl_cut (x y z p r : List UInt8) (hx : x.length ≤ 65536) (hy : y.length ≤ 65536) (hz : z.length ≤ 65536) (h : joinL x y z = p ++ r) (hr : r ≠ []) : (splE p).1 ≠ 0 := by
  intro h0
  obtain ⟨x', y', z', _, _, _, _, hp, h1, h2, h3⟩ := spl_inv h0
  obtain ⟨b, r', rfl⟩ := List.exists_cons_of_ne_nil hr
  have h4 := spl_more x' y' z' b r' h1 h2 h3
  rw [← hp, ← h] at h4
  have h5 := (spl_join x y z hx hy hz).1
  rw [h5] at h4
  simp at h4
end Go.Proofs.YtfelcdbhlahehaaDoor

/- Layer 9: the plain law: instructions come back from their bytes. -/
namespace Go.Proofs.YtfelcdbhlahehaaDoor
open Go Go.Sp
theorem sm_lay {m : Nat} {most : Int} (h : (m : Int) ≤ most) (hm : m < 18446744073709551616) (r : List UInt8) (pl : Int) : smA (encU m ++ r) pl most = (m, 0, 0) ∧ (uA (encU m ++ r) pl).rest = r ∧ (uA (encU m ++ r) pl).pl = pl + (encU m).length := by
  have hu := uA_enc hm r pl
  refine ⟨?_, by rw [hu], by rw [hu]⟩
  unfold smA
  rw [hu]
  simp only [ne_eq, not_true_eq_false, if_false]
  rw [if_neg (by omega)]
theorem small_lay {m : Nat} {most : Int} (h : (m : Int) ≤ most) (hm : m < 18446744073709551616) (k : Nat → RK) (r : List UInt8) (pl : Int) : smallK most k (encU m ++ r) pl = k m r (pl + (encU m).length) := by
  obtain ⟨h1, h2, h3⟩ := sm_lay h hm r pl
  unfold smallK
  rw [h1, h2, h3]
  rfl
theorem opt_lay {m n : Int} (h : inP n m) (h1 : -1 ≤ m) (hn : n ≤ 1000) (k : Int → RK) (r : List UInt8) (pl : Int) : optK m k (optL m n ++ r) pl = k n r (pl + (optL m n).length) := by
  unfold inP at h
  by_cases hm : m = -1
  · rw [optK_none hm, optL_none hm]
    obtain rfl : n = 0 := by omega
    simp
  · obtain ⟨z, rfl⟩ := Int.eq_ofNat_of_zero_le h.1
    rw [optK_some hm, optL_some hm, small_lay (by omega) (by omega)]
theorem list_lay {m : Int} (hm : m ≤ 1000) (k : List Nat → RK) : ∀ (l : List Int) (acc : List Nat) (r : List UInt8) (pl : Int), (∀ z ∈ l, 0 ≤ z ∧ z ≤ m) → listK l.length m acc k (l.flatMap encI ++ r) pl = k (acc ++ l.map Int.toNat) r (pl + (l.flatMap encI).length) := by
  intro l
  induction l with
  | nil => intro acc r pl _; simp [listK]
  | cons z l ih =>
    intro acc r pl h
    have hz := h z (by simp)
    rw [List.length_cons, listK_succ, List.flatMap_cons, List.append_assoc, show encI z = encU z.toNat from rfl, small_lay (by omega) (by omega), ih _ _ _ (fun y hy => h y (by simp [hy]))]
    simp only [List.map_cons, List.append_assoc, List.singleton_append, List.length_append]
    congr 1
    push_cast
    omega
theorem natI_toNat {l : List Int} (h : ∀ z ∈ l, 0 ≤ z) : natI (l.map Int.toNat) = l := by
  induction l with
  | nil => rfl
  | cons z l ih =>
    have h1 := ih (fun y hy => h y (by simp [hy]))
    have h2 := h z (by simp)
    unfold natI at h1 ⊢
    simp only [List.map_cons, List.cons.injEq]
    exact ⟨by omega, h1⟩
theorem row_low {n : Nat} (h : n ≤ 24) : -1 ≤ (rowOf n).1.b ∧ -1 ≤ (rowOf n).1.c ∧ -1 ≤ (rowOf n).1.d := by
  match n, h with
  | 0, _ | 1, _ | 2, _ | 3, _ | 4, _ | 5, _ | 6, _ | 7, _ | 8, _ | 9, _ | 10, _ | 11, _ | 12, _ | 13, _ | 14, _ | 15, _ | 16, _ | 17, _ | 18, _ | 19, _ | 20, _ | 21, _ | 22, _ | 23, _ | 24, _ => exact ⟨by decide, by decide, by decide⟩
  | k + 25, h => omega
/-- The text behind the op. -/
def tailL (r : Row) (x : Ins) : List UInt8 := optL r.b x.b ++ (optL r.c x.c ++ (optL r.d x.d ++ ((if (r.least : Int) < (r.most : Int) then encU x.l.length else []) ++ x.l.flatMap encI)))
theorem bytes_tail {n : Nat} {x : Ins} (h : n ≤ 24) (hx : x.op = (n : Int)) (h1 : n ≠ 1) (hl : x.l.length ≤ (rowOf n).1.most) : bytesL (rowOf n) x = UInt8.ofNat n :: tailL (rowOf n).1 x := by
  rw [bytes_of h hx h1 hl]
  simp [tailL]
theorem okL_all {un : Bool} {rl : Int} {l : List Int} (h : okL un rl l) : ∀ z ∈ l, 0 ≤ z ∧ z ≤ rl := fun z hz => by
  obtain ⟨i, hi, rfl⟩ := List.mem_iff_getElem.1 hz
  exact (h i hi _ (List.getElem?_eq_getElem hi)).2
theorem many_lay {r : Row} {l : List Int} (h1 : r.least ≤ l.length) (h2 : l.length ≤ r.most) (h3 : r.l ≤ 1000) (h4 : r.most ≤ 8) (h : ∀ z ∈ l, 0 ≤ z ∧ z ≤ r.l) (k : List Nat → RK) (rest : List UInt8) (pl : Int) :
    manyK r k ((if (r.least : Int) < (r.most : Int) then encU l.length else []) ++ (l.flatMap encI ++ rest)) pl = k (l.map Int.toNat) rest (pl + ((if (r.least : Int) < (r.most : Int) then encU l.length else []) ++ l.flatMap encI).length) := by
  by_cases hlm : (r.least : Int) < (r.most : Int)
  · rw [manyK_lt hlm, if_pos hlm, small_lay (by omega) (by omega), list_lay h3 _ _ _ _ _ h]
    simp only [List.nil_append, List.length_append]
    congr 1
    push_cast
    omega
  · rw [manyK_ge hlm, if_neg hlm, show r.least = l.length from by omega, List.nil_append, list_lay h3 _ _ _ _ _ h]
    simp
theorem oper_lay {n : Nat} {x : Ins} (h24 : n ≤ 24) (hx : x.op = (n : Int)) (h1 : n ≠ 1) (hf : fitsP (rowOf n).1 x) (rest : List UInt8) (pl : Int) : operK (rowOf n).1 n (tailL (rowOf n).1 x ++ rest) pl = ⟨x, 0, 0, rest, pl + (tailL (rowOf n).1 x).length⟩ := by
  obtain ⟨⟨f0, f1, f2⟩, ⟨f3, f4, f5⟩, f6, f7⟩ := hf
  obtain ⟨b1, b2, b3, b4⟩ := row_small h24
  obtain ⟨b5, b6⟩ := row_few h24
  obtain ⟨b7, b8, b9⟩ := row_low h24
  have hall := okL_all f7
  have ha : x.a = 0 := f0.resolve_left (by rw [row_whole h24 h1]; decide)
  unfold operK
  rw [if_neg (by rw [row_whole h24 h1]; decide)]
  unfold tailL
  simp only [List.append_assoc]
  have i1 := (in_bound f3 b1).2
  have i2 := (in_bound f4 b2).2
  have i3 := (in_bound f5 b3).2
  rw [opt_lay f3 b7 i1, opt_lay f4 b8 i2, opt_lay f5 b9 i3, many_lay f1 f2 b4 b5 hall]
  unfold finK
  rw [natI_toNat (fun z hz => (hall z hz).1)]
  rcases x with ⟨op, a, b, c, d, l⟩
  dsimp only at *
  subst hx ha
  simp only [RdR.mk.injEq, true_and, List.length_append]
  push_cast
  omega
/-- Instructions come back. -/
theorem read_lay {n : Nat} {x : Ins} (h24 : n ≤ 24) (hx : x.op = (n : Int)) (hf : fitsP (rowOf n).1 x) (ha : -9223372036854775808 ≤ x.a ∧ x.a ≤ 9223372036854775807) (rest : List UInt8) (pl : Int) : readR (bytesL (rowOf n) x ++ rest) pl = ⟨x, 0, 0, rest, pl + (bytesL (rowOf n) x).length⟩ := by
  have ho : (UInt8.ofNat n).toNat = n := toNat_of (by omega)
  by_cases h1 : n = 1
  · subst h1
    have hl := hf.1.2.2
    rw [bytes_one hx hl]
    simp only [List.cons_append, List.nil_append]
    rw [read_cons, ho, if_neg (by decide)]
    have he : operK (rowOf 1).1 1 (encU (foldZ x.a) ++ rest) (pl + 1) = ⟨x, 0, 0, rest, pl + (1 + (encU (foldZ x.a)).length)⟩ := by
      rw [show (rowOf 1).1 = ⟨true, -1, -1, -1, -1, 0, 0, false⟩ from rfl, op_S, uA_enc (fold_lt ha)]
      simp only [ne_eq, not_true_eq_false, if_false, unfold_fold]
      obtain ⟨_, ⟨g1, g2, g3⟩, _, _⟩ := hf
      rcases x with ⟨op, a, b, c, d, l⟩
      simp only [rowOf, inP] at *
      obtain rfl : l = [] := List.length_eq_zero_iff.1 (by omega)
      obtain rfl : b = 0 := by omega
      obtain rfl : c = 0 := by omega
      obtain rfl : d = 0 := by omega
      subst hx
      simp only [RdR.mk.injEq, true_and]
      omega
    rw [he]
    simp only [ne_eq, not_true_eq_false, if_false]
    rw [if_pos (bP_t hf).symm]
    simp only [List.length_cons]
    congr 1
    push_cast
    omega
  · rw [bytes_tail h24 hx h1 hf.1.2.2, List.cons_append, read_cons, ho, if_neg (by omega), oper_lay h24 hx h1 hf]
    simp only [ne_eq, not_true_eq_false, if_false]
    rw [if_pos (bP_t hf).symm]
    simp only [List.length_cons]
    congr 1
    push_cast
    omega
end Go.Proofs.YtfelcdbhlahehaaDoor

/- Layer 9: the plain law: what is read is laid again; no beginning of an instruction is one. -/
namespace Go.Proofs.YtfelcdbhlahehaaDoor
open Go Go.Sp
theorem small_inv {most : Int} {k : Nat → RK} {bs : List UInt8} {pl : Int} (h : (smallK most k bs pl).c = 0) : ∃ (m : Nat) (rest : List UInt8) (pl' : Int), (m : Int) ≤ most ∧ bs = encU m ++ rest ∧ smallK most k bs pl = k m rest pl' := by
  unfold smallK at h ⊢
  split at h
  · rename_i h1; exact absurd h h1
  · rename_i h1
    rw [if_neg h1]
    have h2 : (smA bs pl most).2.1 = 0 := Classical.not_not.1 h1
    have hc : (uA bs pl).c = 0 := by
      apply Classical.byContradiction
      intro hc
      exact h1 (by unfold smA; rw [if_pos hc]; exact hc)
    have hn : (smA bs pl most).1 = (uA bs pl).n := by
      unfold smA at h2 ⊢
      rw [if_neg (by simpa using hc)] at h2 ⊢
      split at h2
      · simp at h2
      · rename_i h3; rw [if_neg h3]
    refine ⟨(smA bs pl most).1, _, _, sm_le h2, ?_, rfl⟩
    rw [hn]
    exact (uA_inv hc).1
theorem opt_inv {m : Int} {k : Int → RK} {bs : List UInt8} {pl : Int} (h : (optK m k bs pl).c = 0) : ∃ (n : Int) (rest : List UInt8) (pl' : Int), inP n m ∧ bs = optL m n ++ rest ∧ optK m k bs pl = k n rest pl' := by
  by_cases hm : m = -1
  · rw [optK_none hm] at h ⊢
    exact ⟨0, bs, pl, by unfold inP; omega, by rw [optL_none hm]; rfl, rfl⟩
  · rw [optK_some hm] at h ⊢
    obtain ⟨z, rest, pl', h1, h2, h3⟩ := small_inv h
    exact ⟨(z : Int), rest, pl', by unfold inP; omega, by rw [optL_some hm]; exact h2, h3⟩
theorem list_inv {m : Int} {k : List Nat → RK} : ∀ (n : Nat) (acc : List Nat) (bs : List UInt8) (pl : Int), (listK n m acc k bs pl).c = 0 → ∃ (l : List Nat) (rest : List UInt8) (pl' : Int), l.length = n ∧ (∀ z ∈ l, (z : Int) ≤ m) ∧ bs = (natI l).flatMap encI ++ rest ∧ listK n m acc k bs pl = k (acc ++ l) rest pl' := by
  intro n
  induction n with
  | zero => intro acc bs pl h; exact ⟨[], bs, pl, rfl, by simp, by simp [natI], by simp [listK]⟩
  | succ n ih =>
    intro acc bs pl h
    rw [listK_succ] at h ⊢
    obtain ⟨z, r1, p1, h1, h2, h3⟩ := small_inv h
    rw [h3] at h
    obtain ⟨l, r2, p2, g1, g2, g3, g4⟩ := ih _ _ _ h
    refine ⟨z :: l, r2, p2, by simp [g1], ?_, ?_, ?_⟩
    · intro y hy
      simp only [List.mem_cons] at hy
      rcases hy with rfl | hy
      · exact h1
      · exact g2 y hy
    · rw [h2, g3]
      simp [natI, encI]
    · rw [h3, g4]
      simp
theorem many_inv {r : Row} {k : List Nat → RK} {bs : List UInt8} {pl : Int} (hr : r.least ≤ r.most) (h : (manyK r k bs pl).c = 0) : ∃ (l : List Nat) (rest : List UInt8) (pl' : Int), r.least ≤ l.length + (if (r.least : Int) < (r.most : Int) then r.least else 0) ∧ l.length ≤ r.most ∧ (∀ z ∈ l, (z : Int) ≤ r.l) ∧ bs = (if (r.least : Int) < (r.most : Int) then encU l.length else []) ++ ((natI l).flatMap encI ++ rest) ∧ manyK r k bs pl = k l rest pl' := by
  by_cases hlm : (r.least : Int) < (r.most : Int)
  · rw [manyK_lt hlm] at h ⊢
    obtain ⟨m, r1, p1, h1, h2, h3⟩ := small_inv h
    rw [h3] at h
    obtain ⟨l, r2, p2, g1, g2, g3, g4⟩ := list_inv _ _ _ _ h
    subst g1
    exact ⟨l, r2, p2, by rw [if_pos hlm]; omega, by omega, g2, by rw [if_pos hlm, h2, g3], by rw [h3, g4]; simp⟩
  · rw [manyK_ge hlm] at h ⊢
    obtain ⟨l, r2, p2, g1, g2, g3, g4⟩ := list_inv _ _ _ _ h
    exact ⟨l, r2, p2, by omega, by omega, g2, by rw [if_neg hlm, g3]; rfl, by rw [g4]; simp⟩
theorem row_order {n : Nat} (h : n ≤ 24) : (rowOf n).1.least ≤ (rowOf n).1.most := by
  match n, h with
  | 0, _ | 1, _ | 2, _ | 3, _ | 4, _ | 5, _ | 6, _ | 7, _ | 8, _ | 9, _ | 10, _ | 11, _ | 12, _ | 13, _ | 14, _ | 15, _ | 16, _ | 17, _ | 18, _ | 19, _ | 20, _ | 21, _ | 22, _ | 23, _ | 24, _ => decide
  | k + 25, h => omega
theorem fold_unfold (n : Nat) : foldZ (unfoldZ n) = n := by
  unfold foldZ unfoldZ
  split <;> split <;> omega
theorem oper_inv {n : Nat} (h24 : n ≤ 24) (h1 : n ≠ 1) {bs : List UInt8} {pl : Int} (h : (operK (rowOf n).1 n bs pl).c = 0) : (operK (rowOf n).1 n bs pl).x.op = n ∧ (operK (rowOf n).1 n bs pl).x.a = 0 ∧ (operK (rowOf n).1 n bs pl).x.l.length ≤ (rowOf n).1.most ∧ bs = tailL (rowOf n).1 (operK (rowOf n).1 n bs pl).x ++ (operK (rowOf n).1 n bs pl).bs := by
  unfold operK at h ⊢
  rw [if_neg (by rw [row_whole h24 h1]; decide)] at h ⊢
  obtain ⟨b, r1, p1, a1, a2, a3⟩ := opt_inv h
  rw [a3] at h ⊢
  obtain ⟨c, r2, p2, b1, b2, b3⟩ := opt_inv h
  rw [b3] at h ⊢
  obtain ⟨d, r3, p3, c1, c2, c3⟩ := opt_inv h
  rw [c3] at h ⊢
  obtain ⟨l, r4, p4, d1, d2, d3, d4, d5⟩ := many_inv (row_order h24) h
  rw [d5]
  unfold finK tailL
  have hl : (natI l).length = l.length := natI_len
  refine ⟨rfl, rfl, by rw [hl]; exact d2, ?_⟩
  simp only [hl]
  rw [a2, b2, c2, d4]
  simp
/-- What is read are an instruction's own bytes. -/
theorem read_inv {bs : List UInt8} {pl : Int} (h : (readR bs pl).c = 0) : ∃ n : Nat, n ≤ 24 ∧ (readR bs pl).x.op = (n : Int) ∧ fitsP (rowOf n).1 (readR bs pl).x ∧ (-9223372036854775808 ≤ (readR bs pl).x.a ∧ (readR bs pl).x.a ≤ 9223372036854775807) ∧ bs = bytesL (rowOf n) (readR bs pl).x ++ (readR bs pl).bs := by
  cases bs with
  | nil => simp [read_nil, errR] at h
  | cons o t =>
    rw [read_cons] at h ⊢
    split at h
    · simp [errR] at h
    · rename_i h24
      split at h
      · rename_i h1; exact absurd h h1
      · rename_i h1
        split at h
        · rename_i h2
          rw [if_neg h24, if_neg h1, if_pos h2]
          have hc : (operK (rowOf o.toNat).1 o.toNat t (pl + 1)).c = 0 := h
          have hf : fitsP (rowOf o.toNat).1 (operK (rowOf o.toNat).1 o.toNat t (pl + 1)).x := by simpa [bP] using h2
          have ho : UInt8.ofNat o.toNat = o := by simp
          by_cases hn : o.toNat = 1
          · refine ⟨1, by decide, ?_⟩
            rw [hn] at hc hf ⊢
            rw [show (rowOf 1).1 = ⟨true, -1, -1, -1, -1, 0, 0, false⟩ from rfl, op_S] at hc ⊢
            have hf' := hf
            rw [show (rowOf 1).1 = ⟨true, -1, -1, -1, -1, 0, 0, false⟩ from rfl, op_S] at hf'
            split at hc
            · rename_i h3; exact absurd hc h3
            · rename_i h3
              rw [if_neg h3] at hf' ⊢
              have hu := uA_inv (Classical.not_not.1 h3)
              have hi := unfold_in (uA_ok t (pl + 1)).1
              refine ⟨rfl, hf', hi, ?_⟩
              rw [bytes_one rfl (by simp), fold_unfold]
              rw [show [UInt8.ofNat 1] = [o] from by rw [← ho, hn]]
              simp only [List.cons_append, List.nil_append]
              rw [← hu.1]
          · obtain ⟨g1, g2, g3, g4⟩ := oper_inv (by omega) hn hc
            refine ⟨o.toNat, by omega, g1, hf, by omega, ?_⟩
            rw [bytes_tail (by omega) g1 hn g3, List.cons_append, ← g4, ho]
        · simp [errR] at h
/-! ### Beginnings -/
def PP (p t : List UInt8) : Prop := ∃ r, r ≠ [] ∧ t = p ++ r
theorem pp_app {p a b : List UInt8} (h : PP p (a ++ b)) : PP p a ∨ ∃ p', p = a ++ p' ∧ PP p' b := by
  obtain ⟨r, h1, h2⟩ := h
  rcases List.append_eq_append_iff.1 h2 with ⟨c, h3, h4⟩ | ⟨c, h3, h4⟩
  · exact .inr ⟨c, h3, r, h1, h4⟩
  · by_cases hc : c = []
    · subst hc
      exact .inr ⟨[], by simpa using h3.symm, r, h1, by simpa using h4.symm⟩
    · exact .inl ⟨c, hc, h3⟩
theorem grab_pp : ∀ (k n : Nat) (p : List UInt8), PP p (encU n) → (encU n).length ≤ k → grab k p = none := by
  intro k
  induction k with
  | zero => intro n p h hk; exact absurd (List.length_eq_zero_iff.1 (Nat.le_zero.1 hk)) (encU_ne n)
  | succ k ih =>
    intro n p ⟨r, h1, h2⟩ hk
    cases p with
    | nil => rfl
    | cons b p =>
      by_cases hn : n < 128
      · rw [encU_lt hn] at h2
        simp only [List.cons_append, List.cons.injEq] at h2
        have := h2.2.symm
        simp only [List.append_eq_nil_iff] at this
        exact absurd this.2 h1
      · rw [encU_ge hn] at h2 hk
        simp only [List.cons_append, List.cons.injEq] at h2
        simp only [List.length_cons] at hk
        have hb : ¬ b.toNat < 128 := by rw [← h2.1, toNat_of (by omega)]; omega
        simp only [grab, if_neg hb]
        rw [ih (n / 128) p ⟨r, h1, h2.2⟩ (by omega)]
        rfl
abbrev shortR (p : List UInt8) (pl : Int) : RdR := errR 3 (pl + p.length) [] (pl + p.length)
theorem uA_pp {n : Nat} {p : List UInt8} {pl : Int} (h : PP p (encU n)) (hn : n < 18446744073709551616) : uA p pl = ⟨0, 3, pl + p.length, [], pl + p.length⟩ := by
  unfold uA
  rw [grab_pp 10 n p h (enc_len10 hn)]
theorem small_pp {m : Nat} {most : Int} (hm : (m : Int) ≤ most) (hm2 : m < 18446744073709551616) {k : Nat → RK} {b : List UInt8} (hk : ∀ p pl, PP p b → k m p pl = shortR p pl) : ∀ p pl, PP p (encU m ++ b) → smallK most k p pl = shortR p pl := fun p pl h => by
  rcases pp_app h with h' | ⟨p', rfl, h'⟩
  · have hu := uA_pp (pl := pl) h' hm2
    unfold smallK
    have hs : smA p pl most = (0, 3, pl + p.length) := by unfold smA; rw [hu]; rfl
    rw [hs, hu]
    rfl
  · rw [small_lay hm hm2, hk _ _ h']
    unfold shortR
    simp only [List.length_append]
    congr 1 <;> push_cast <;> omega
theorem opt_pp {m n : Int} (h : inP n m) (h1 : -1 ≤ m) (hn : n ≤ 1000) {k : Int → RK} {b : List UInt8} (hk : ∀ p pl, PP p b → k n p pl = shortR p pl) : ∀ p pl, PP p (optL m n ++ b) → optK m k p pl = shortR p pl := fun p pl hp => by
  unfold inP at h
  by_cases hm : m = -1
  · rw [optL_none hm, List.nil_append] at hp
    obtain rfl : n = 0 := by omega
    rw [optK_none hm]
    exact hk p pl hp
  · obtain ⟨z, rfl⟩ := Int.eq_ofNat_of_zero_le h.1
    rw [optL_some hm] at hp
    rw [optK_some hm]
    exact small_pp (by omega) (by omega) hk p pl hp
theorem list_pp {m : Int} (hm : m ≤ 1000) {k : List Nat → RK} : ∀ (l : List Int) (acc : List Nat), (∀ z ∈ l, 0 ≤ z ∧ z ≤ m) → ∀ p pl, PP p (l.flatMap encI) → listK l.length m acc k p pl = shortR p pl := by
  intro l
  induction l with
  | nil =>
    rintro acc _ p pl ⟨r, h1, h2⟩
    have := h2.symm
    simp only [List.flatMap_nil, List.append_eq_nil_iff] at this
    exact absurd this.2 h1
  | cons z l ih =>
    intro acc h p pl hp
    have hz := h z (by simp)
    rw [List.length_cons, listK_succ]
    rw [List.flatMap_cons] at hp
    exact small_pp (m := z.toNat) (by omega) (by omega) (fun p pl hp => ih _ (fun y hy => h y (by simp [hy])) p pl hp) p pl hp
theorem many_pp {r : Row} {l : List Int} (h1 : r.least ≤ l.length) (h2 : l.length ≤ r.most) (h3 : r.l ≤ 1000) (h4 : r.most ≤ 8) (h : ∀ z ∈ l, 0 ≤ z ∧ z ≤ r.l) (k : List Nat → RK) : ∀ p pl, PP p ((if (r.least : Int) < (r.most : Int) then encU l.length else []) ++ l.flatMap encI) → manyK r k p pl = shortR p pl := fun p pl hp => by
  by_cases hlm : (r.least : Int) < (r.most : Int)
  · rw [if_pos hlm] at hp
    rw [manyK_lt hlm]
    exact small_pp (by omega) (by omega) (fun p pl hp => list_pp h3 l [] h p pl hp) p pl hp
  · rw [if_neg hlm, List.nil_append] at hp
    rw [manyK_ge hlm, show r.least = l.length from by omega]
    exact list_pp h3 l [] h p pl hp
/-- No beginning of an instruction is one. -/
theorem read_pp {n : Nat} {x : Ins} (h24 : n ≤ 24) (hx : x.op = (n : Int)) (hf : fitsP (rowOf n).1 x) (ha : -9223372036854775808 ≤ x.a ∧ x.a ≤ 9223372036854775807) (p : List UInt8) (pl : Int) (hp : PP p (bytesL (rowOf n) x)) : readR p pl = shortR p pl := by
  have ho : (UInt8.ofNat n).toNat = n := toNat_of (by omega)
  have hs : ∀ (t : List UInt8) (R : RdR), R = shortR t (pl + 1) → (if R.c ≠ 0 then errR R.c R.a R.bs R.pl else if bP (fitsP (rowOf n).1 R.x) = true then R else errR 2 pl R.bs R.pl) = shortR (UInt8.ofNat n :: t) pl := fun t R hR => by
    subst hR
    unfold shortR
    rw [if_pos (by simp [errR])]
    simp only [errR, List.length_cons]
    congr 1 <;> push_cast <;> omega
  by_cases h1 : n = 1
  · subst h1
    rw [bytes_one hx hf.1.2.2] at hp
    rcases pp_app hp with ⟨r, g1, g2⟩ | ⟨t, rfl, g⟩
    · cases p with
      | nil => rw [read_nil]; simp [shortR]
      | cons b p =>
        simp only [List.cons_append, List.cons.injEq] at g2
        have := g2.2.symm
        simp only [List.append_eq_nil_iff] at this
        exact absurd this.2 g1
    · simp only [List.cons_append, List.nil_append]
      rw [read_cons, ho, if_neg (by decide)]
      refine hs t _ ?_
      rw [show (rowOf 1).1 = ⟨true, -1, -1, -1, -1, 0, 0, false⟩ from rfl, op_S, uA_pp g (fold_lt ha)]
      rfl
  · rw [bytes_tail h24 hx h1 hf.1.2.2, show UInt8.ofNat n :: tailL (rowOf n).1 x = [UInt8.ofNat n] ++ tailL (rowOf n).1 x from rfl] at hp
    rcases pp_app hp with ⟨r, g1, g2⟩ | ⟨t, rfl, g⟩
    · cases p with
      | nil => rw [read_nil]; simp [shortR]
      | cons b p =>
        simp only [List.cons_append, List.cons.injEq] at g2
        have := g2.2.symm
        simp only [List.append_eq_nil_iff] at this
        exact absurd this.2 g1
    · simp only [List.cons_append, List.nil_append]
      rw [read_cons, ho, if_neg (by omega)]
      refine hs t _ ?_
      obtain ⟨⟨f0, f1, f2⟩, ⟨f3, f4, f5⟩, f6, f7⟩ := hf
      obtain ⟨b1, b2, b3, b4⟩ := row_small h24
      obtain ⟨b5, b6⟩ := row_few h24
      obtain ⟨b7, b8, b9⟩ := row_low h24
      unfold operK
      rw [if_neg (by rw [row_whole h24 h1]; decide)]
      unfold tailL at g
      exact opt_pp f3 b7 (in_bound f3 b1).2 (fun p pl h => opt_pp f4 b8 (in_bound f4 b2).2 (fun p pl h => opt_pp f5 b9 (in_bound f5 b3).2 (fun p pl h => many_pp f1 f2 b4 b5 (okL_all f7) _ p pl h) p pl h) p pl h) t (pl + 1) g
end Go.Proofs.YtfelcdbhlahehaaDoor

/- Calls' results weakened; literals of rows as frozen rows. -/
namespace Go.Sp
open Go.RowKit
section
variable {P : Program} {N : Nat} {rd : Option Nat} {E : Env} {D : List Deferred} {L : List HP} {Q : Post}
theorem JO_weak {o : Oper} {next next' : Env → List Deferred → List HP → Prop} (h : JO P N rd o E D L next Q) (hc : ∀ E' D' L', next E' D' L' → ∃ L'', Ent L' L'' ∧ next' E' D' L'') : JO P N rd o E D L next' Q := fun F a w hr hs nx hnx =>
  h F a w hr hs nx (fun _ _ _ _ _ hn hr' hs' => let ⟨_, he, hn'⟩ := hc _ _ _ hn; hnx _ _ _ _ _ hn' hr' (he F _ hs'))
variable {d : Option Nat} {ty : TypeId} {pos : String} {after : Array Edge} {g : Option (Nat × Bool)} {next : Env → List Deferred → List HP → Prop}
theorem ent_own {r e sz n cap : Nat} {cs : List Value} {L : List HP} (h0 : cs.length = n * sz) (h1 : n ≤ cap) (h2 : cap ≤ maxLen) (h3 : cs.length = cap * sz) : Ent (pt r (.cells cs.toArray e (0, 0)) :: L) (OwnS e sz (.slice (some ⟨r, 0, none⟩) n cap) n cs :: L) := fun F w hs => by
  have h4 : Sat w (pt r (.cells (cs ++ []).toArray e (0, 0)) :: F :: L) := by rw [List.append_nil]; exact hs.swap
  exact (Sat.own_block h4 h0 h1 h2 (by simpa using h3)).swap
theorem ent_freeze {e sz n : Nat} {v : Value} {cs : List Value} {L : List HP} : Ent (OwnS e sz v n cs :: L) (Vw sz v n cs :: L) := fun _ _ hs => hs.swap.own_freeze.swap
/-- A literal row of ints, frozen. -/
theorem JO_buildV (l : List Int) {t e : TypeId} [TU P t (.slice e)] {z : Value} {k : Nat} [TI P e z 1 k] {len : Nat} {parts : Array (Nat × Operand)} {xs : List Operand} {vs cs : List Value}
    (hp : inOrder parts.toList 0 = some xs) (hx : evs E xs = some vs) [hc : Cat vs 1 cs] (hl : vs.length = len) (he : cs = ints l) (hlen : len = l.length) (hb : len * 1 ≤ 16777216) (hd : dok N d = true)
    (h : ∀ r, next (put E d (.slice (some ⟨r, 0, none⟩) l.length l.length)) D (Vw 1 (.slice (some ⟨r, 0, none⟩) l.length l.length) l.length (ints l) :: L)) :
    JO P N rd ⟨d, .buildSlice t len parts, ty, pos, after, g⟩ E D L next Q := by
  subst hlen
  refine JO_weak (next := fun E' D' L' => ∃ r, E' = put E d (.slice (some ⟨r, 0, none⟩) l.length l.length) ∧ D' = D ∧ L' = pt r (.cells cs.toArray e (0, 0)) :: L) (JO_buildSlice (n := 1) hp hx hl hb hd (fun r => ⟨r, rfl, rfl, rfl⟩)) ?_
  rintro E' D' L' ⟨r, rfl, rfl, rfl⟩
  refine ⟨_, ?_, h r⟩
  rw [he]
  exact (ent_own (sz := 1) (by simp [ints]) (Nat.le_refl _) (Nat.le_trans (show l.length ≤ 16777216 by omega) (by decide)) (by simp [ints])).trans ent_freeze
end
end Go.Sp

/- Layer 9: is, fails, the chapter's examples. -/
namespace Go.Proofs.YtfelcdbhlahehaaDoor
open Go Go.Sp
/-! ### What fits, decided -/
def okD (un : Bool) (rl : Int) : List Int → List Int → Bool
  | _, [] => true
  | pre, n :: l => (!un || !pre.contains n) && decide (0 ≤ n) && decide (n ≤ rl) && okD un rl (pre ++ [n]) l
theorem okD_iff (un : Bool) (rl : Int) : ∀ (l pre : List Int), okD un rl pre l = true ↔ ∀ i, i < l.length → ∀ n, l[i]? = some n → (un = true → (∀ j, j < i → l[j]? ≠ some n) ∧ n ∉ pre) ∧ 0 ≤ n ∧ n ≤ rl := by
  intro l
  induction l with
  | nil => intro pre; simp [okD]
  | cons m l ih =>
    intro pre
    simp only [okD, Bool.and_eq_true, decide_eq_true_eq, ih]
    constructor
    · rintro ⟨⟨⟨h1, h2⟩, h3⟩, h4⟩ i hi n hn
      cases i with
      | zero =>
        simp only [List.getElem?_cons_zero, Option.some.injEq] at hn
        subst hn
        refine ⟨fun hu => ⟨fun j hj => absurd hj (by omega), ?_⟩, h2, h3⟩
        subst hu
        simpa using h1
      | succ i =>
        simp only [List.getElem?_cons_succ] at hn
        obtain ⟨g1, g2⟩ := h4 i (by simpa using hi) n hn
        refine ⟨fun hu => ⟨fun j hj => ?_, fun hm => (g1 hu).2 (by simp [hm])⟩, g2⟩
        cases j with
        | zero =>
          simp only [List.getElem?_cons_zero, ne_eq, Option.some.injEq]
          intro he
          exact (g1 hu).2 (by simp [he])
        | succ j =>
          simp only [List.getElem?_cons_succ]
          exact (g1 hu).1 j (by omega)
    · intro h
      have h0 := h 0 (by simp) m (by simp)
      refine ⟨⟨⟨?_, h0.2.1⟩, h0.2.2⟩, fun i hi n hn => ?_⟩
      · cases un with
        | false => rfl
        | true => simpa using (h0.1 rfl).2
      · obtain ⟨g1, g2⟩ := h (i + 1) (by simpa using hi) n (by simpa using hn)
        refine ⟨fun hu => ⟨fun j hj => ?_, fun hm => ?_⟩, g2⟩
        · have := (g1 hu).1 (j + 1) (by omega)
          simpa using this
        · rw [List.mem_append, List.mem_singleton] at hm
          rcases hm with hm | hm
          · exact (g1 hu).2 hm
          · subst hm
            exact (g1 hu).1 0 (by omega) (by simp)
def inD (n m : Int) : Bool := decide (0 ≤ n) && decide (n ≤ max m 0)
def fitsD (r : Row) (x : Ins) : Bool := (r.whole || decide (x.a = 0)) && decide (r.least ≤ x.l.length) && decide (x.l.length ≤ r.most) && inD x.b r.b && inD x.c r.c && inD x.d r.d && (!r.unlike || decide (r.c = -1) || !decide (x.b = x.c)) && okD r.unlike r.l [] x.l
theorem fits_iff {r : Row} {x : Ins} : fitsD r x = true ↔ fitsP r x := by
  unfold fitsD fitsP headP pairP inP okL okAt inD
  simp only [Bool.and_eq_true, Bool.or_eq_true, decide_eq_true_eq, okD_iff, Bool.not_eq_true', decide_eq_false_iff_not, List.not_mem_nil, not_false_eq_true, and_true]
  constructor
  · rintro ⟨⟨⟨⟨⟨⟨⟨h1, h2⟩, h3⟩, h4⟩, h5⟩, h6⟩, h7⟩, h8⟩
    exact ⟨⟨h1, h2, h3⟩, ⟨h4, h5, h6⟩, by rcases h7 with (h | h) | h <;> simp [h], h8⟩
  · rintro ⟨⟨h1, h2, h3⟩, ⟨h4, h5, h6⟩, h7, h8⟩
    exact ⟨⟨⟨⟨⟨⟨⟨h1, h2⟩, h3⟩, h4⟩, h5⟩, h6⟩, by rcases h7 with h | h | h <;> simp [h]⟩, h8⟩
theorem fits_t {r : Row} {x : Ins} (h : fitsD r x = true) : fitsP r x := fits_iff.1 h
theorem fits_f {r : Row} {x : Ins} (h : fitsD r x = false) : ¬ fitsP r x := fun hf => by rw [fits_iff.2 hf] at h; cases h
/-- What reading gives, reckoned. -/
def readD (bs : List UInt8) (pl : Int) : RdR := match bs with
  | [] => errR 3 pl [] pl
  | o :: t => if 24 < o.toNat then errR 11 pl t (pl + 1)
    else if (operK (rowOf o.toNat).1 o.toNat t (pl + 1)).c ≠ 0 then errR (operK (rowOf o.toNat).1 o.toNat t (pl + 1)).c (operK (rowOf o.toNat).1 o.toNat t (pl + 1)).a (operK (rowOf o.toNat).1 o.toNat t (pl + 1)).bs (operK (rowOf o.toNat).1 o.toNat t (pl + 1)).pl
    else if fitsD (rowOf o.toNat).1 (operK (rowOf o.toNat).1 o.toNat t (pl + 1)).x = true then operK (rowOf o.toNat).1 o.toNat t (pl + 1)
    else errR 2 pl (operK (rowOf o.toNat).1 o.toNat t (pl + 1)).bs (operK (rowOf o.toNat).1 o.toNat t (pl + 1)).pl
theorem read_D (bs : List UInt8) (pl : Int) : readR bs pl = readD bs pl := by
  have hb : ∀ (r : Row) (x : Ins), bP (fitsP r x) = fitsD r x := fun r x => by
    cases h : fitsD r x with
    | true => exact (bP_t (fits_t h)).symm
    | false => exact (bP_f (fits_f h)).symm
  cases bs with
  | nil => rfl
  | cons o t =>
    rw [read_cons, hb]
    rfl
theorem bytes_len {n : Nat} {x : Ins} (h24 : n ≤ 24) (hx : x.op = (n : Int)) (hf : fitsP (rowOf n).1 x) (ha : -9223372036854775808 ≤ x.a ∧ x.a ≤ 9223372036854775807) : (bytesL (rowOf n) x).length ≤ 131 ∧ 1 ≤ (bytesL (rowOf n) x).length := by
  by_cases h1 : n = 1
  · subst h1
    rw [bytes_one hx hf.1.2.2]
    have := enc_len10 (fold_lt ha)
    simp
    omega
  · rw [bytes_tail h24 hx h1 hf.1.2.2]
    obtain ⟨⟨f0, f1, f2⟩, ⟨f3, f4, f5⟩, f6, f7⟩ := hf
    obtain ⟨b1, b2, b3, b4⟩ := row_small h24
    obtain ⟨b5, b6⟩ := row_few h24
    have o1 := opt_len (m := (rowOf n).1.b) (in_bound f3 b1)
    have o2 := opt_len (m := (rowOf n).1.c) (in_bound f4 b2)
    have o3 := opt_len (m := (rowOf n).1.d) (in_bound f5 b3)
    have o4 := flat_len (okL_mem f7 b4)
    have o5 := enc_len10 (n := x.l.length) (by omega)
    unfold tailL
    simp only [List.length_cons, List.length_append]
    split
    · omega
    · simp only [List.length_nil]; omega
theorem Ct.postS {f : FuncId} {args : Array Value} {L : List HP} {R R' : Ending → List HP → Prop} (h : Ct Tryd.prog f args L R) (hr : ∀ e L', R e L' → ∀ F w, Sat w (F :: L') → ∃ L'', R' e L'' ∧ Sat w (F :: L'')) : Ct Tryd.prog f args L R' := fun F w hs =>
  (h F w hs).mono fun _ w' ⟨hne, _, r, s⟩ => let ⟨L'', r', s'⟩ := hr _ _ r F w' s; ⟨hne, L'', r', s'⟩
theorem sat_er0 {v : Value} {a : Int} {w : World} {L : List HP} (h : Sat w (Er v 0 a :: L)) : v = .nilIface := h.out fun _ hk => hk.elim (fun h => h.2.2) (fun h => absurd rfl h.1)
theorem sat_er1 {v : Value} {c a : Int} {w : World} {L : List HP} (hc : c ≠ 0) (h : Sat w (Er v c a :: L)) : ∃ q, v = faultI q ∧ Sat w (Ft q c a :: L) := by
  obtain ⟨q, h1⟩ := h.outE (α := Nat) (B := fun q k => v = faultI q ∧ Ft q c a k) (fun k hk => hk.elim (fun h => absurd h.1 hc) (fun h => h.2))
  exact ⟨q, h1.out fun _ hk => hk.1, h1.conv fun _ hk => hk.2⟩
theorem read_ok (q : Nat) (bs : List UInt8) (pl : Int) (hpl : 0 ≤ pl ∧ pl + bs.length ≤ 1000000) {x : Ins} {bs' : List UInt8} {pl' : Int} (h : readR bs pl = ⟨x, 0, 0, bs', pl'⟩) :
    Ct Tryd.prog 24 #[ptr q] [RdB q bs pl] (RetE (fun y : Option Addr × Nat => x.l.length ≤ y.2) (fun y => .tuple #[.agg (insC x (.slice y.1 x.l.length y.2)).toArray, .nilIface]) (fun y => [Vw 1 (.slice y.1 x.l.length y.2) x.l.length (ints x.l), RdB q bs' pl'])) :=
  Ct.postS (read_c q bs pl hpl) fun e L' ⟨⟨v, p, cap⟩, hc, he, hL⟩ F w hs => by
    rw [h] at hc he hL
    dsimp only at hc he hL
    rw [hL] at hs
    obtain rfl := sat_er0 hs.rot
    exact ⟨_, ⟨(p, cap), hc, he, rfl⟩, hs.rot.tail.rot.rot⟩
theorem read_bad (q : Nat) (bs : List UInt8) (pl : Int) (hpl : 0 ≤ pl ∧ pl + bs.length ≤ 1000000) {c a : Int} {bs' : List UInt8} {pl' : Int} (h : readR bs pl = errR c a bs' pl') (hc0 : c ≠ 0) :
    Ct Tryd.prog 24 #[ptr q] [RdB q bs pl] (RetE (fun _ : Nat × Option Addr × Nat => True) (fun y => .tuple #[.agg (insC zeroI (.slice y.2.1 0 y.2.2)).toArray, faultI y.1]) (fun y => [Ft y.1 c a, Vw 1 (.slice y.2.1 0 y.2.2) 0 (ints []), RdB q bs' pl'])) :=
  Ct.postS (read_c q bs pl hpl) fun e L' ⟨⟨v, p, cap⟩, hc, he, hL⟩ F w hs => by
    rw [h] at hc he hL
    unfold errR at hc he hL
    dsimp only at hc he hL
    rw [hL] at hs
    obtain ⟨qf, rfl, h1⟩ := sat_er1 hc0 hs.rot
    exact ⟨_, ⟨(qf, p, cap), trivial, he, rfl⟩, h1.rot.rot.rot⟩
theorem wb0 : bytesL (rowOf 0) ⟨0, 0, 0, 0, 0, []⟩ = [0] := by simp [bytesL, rowOf, optL, encI, encU_lt, encU_ge, foldZ]
theorem wf0 : fitsP (rowOf 0).1 ⟨0, 0, 0, 0, 0, []⟩ := fits_t (by decide)
theorem wb1 : bytesL (rowOf 1) ⟨1, (-2), 0, 0, 0, []⟩ = [1, 3] := by simp [bytesL, rowOf, optL, encI, encU_lt, encU_ge, foldZ]
theorem wf1 : fitsP (rowOf 1).1 ⟨1, (-2), 0, 0, 0, []⟩ := fits_t (by decide)
theorem wb2 : bytesL (rowOf 9) ⟨9, 0, 3, 0, 0, []⟩ = [9, 3] := by simp [bytesL, rowOf, optL, encI, encU_lt, encU_ge, foldZ]
theorem wf2 : fitsP (rowOf 9).1 ⟨9, 0, 3, 0, 0, []⟩ := fits_t (by decide)
theorem wb3 : bytesL (rowOf 16) ⟨16, 0, 1, 2, 0, []⟩ = [16, 1, 2] := by simp [bytesL, rowOf, optL, encI, encU_lt, encU_ge, foldZ]
theorem wf3 : fitsP (rowOf 16).1 ⟨16, 0, 1, 2, 0, []⟩ := fits_t (by decide)
theorem wd4 : ([.int .i64 5] : List Value) = ints [5] := rfl
theorem wb4 : bytesL (rowOf 11) ⟨11, 0, 0, 0, 0, [5]⟩ = [11, 5] := by simp [bytesL, rowOf, optL, encI, encU_lt, encU_ge, foldZ]
theorem wf4 : fitsP (rowOf 11).1 ⟨11, 0, 0, 0, 0, [5]⟩ := fits_t (by decide)
theorem wd5 : ([.int .i64 127] : List Value) = ints [127] := rfl
theorem wb5 : bytesL (rowOf 12) ⟨12, 0, 0, 0, 0, [127]⟩ = [12, 127] := by simp [bytesL, rowOf, optL, encI, encU_lt, encU_ge, foldZ]
theorem wf5 : fitsP (rowOf 12).1 ⟨12, 0, 0, 0, 0, [127]⟩ := fits_t (by decide)
theorem wb6 : bytesL (rowOf 18) ⟨18, 0, 1, 7, 0, []⟩ = [18, 1, 7] := by simp [bytesL, rowOf, optL, encI, encU_lt, encU_ge, foldZ]
theorem wf6 : fitsP (rowOf 18).1 ⟨18, 0, 1, 7, 0, []⟩ := fits_t (by decide)
theorem wd7 : ([.int .i64 4, .int .i64 9] : List Value) = ints [4, 9] := rfl
theorem wb7 : bytesL (rowOf 19) ⟨19, 0, 0, 0, 0, [4, 9]⟩ = [19, 0, 2, 4, 9] := by simp [bytesL, rowOf, optL, encI, encU_lt, encU_ge, foldZ]
theorem wf7 : fitsP (rowOf 19).1 ⟨19, 0, 0, 0, 0, [4, 9]⟩ := fits_t (by decide)
theorem wd8 : ([.int .i64 0, .int .i64 1] : List Value) = ints [0, 1] := rfl
theorem wb8 : bytesL (rowOf 20) ⟨20, 0, 2, 0, 300, [0, 1]⟩ = [20, 2, 172, 2, 0, 1] := by simp [bytesL, rowOf, optL, encI, encU_lt, encU_ge, foldZ]
theorem wf8 : fitsP (rowOf 20).1 ⟨20, 0, 2, 0, 300, [0, 1]⟩ := fits_t (by decide)
theorem wd9 : ([.int .i64 0, .int .i64 3] : List Value) = ints [0, 3] := rfl
theorem wb9 : bytesL (rowOf 21) ⟨21, 0, 1, 0, 0, [0, 3]⟩ = [21, 1, 2, 0, 3] := by simp [bytesL, rowOf, optL, encI, encU_lt, encU_ge, foldZ]
theorem wf9 : fitsP (rowOf 21).1 ⟨21, 0, 1, 0, 0, [0, 3]⟩ := fits_t (by decide)
theorem wb10 : bytesL (rowOf 24) ⟨24, 0, 0, 0, 0, []⟩ = [24] := by simp [bytesL, rowOf, optL, encI, encU_lt, encU_ge, foldZ]
theorem wf10 : fitsP (rowOf 24).1 ⟨24, 0, 0, 0, 0, []⟩ := fits_t (by decide)
attribute [local irreducible] callFunc Go.method J JL JO JR JR1 JRl Ct JG JM JM1 JW JW1 JQ JQ0 JS CtD LeavesQ ints RdB Er by8 Gl readR bytesL fitsP
set_option maxHeartbeats 4000000 in
theorem isI_c (x : Ins) (p : Option Addr) (cap : Nat) (hc : x.l.length ≤ cap) (hm : x.l.length ≤ 1000) (ha : -9223372036854775808 ≤ x.a ∧ x.a ≤ 9223372036854775807) {n : Nat} (hn : x.op = (n : Int)) (hn24 : n ≤ 24) (hfit : fitsP (rowOf n).1 x) (want : List UInt8) (hw : want = bytesL (rowOf n) x) :
    Ct Tryd.prog 35 #[.agg (insC x (.slice p x.l.length cap)).toArray, str want] [Vw 1 (.slice p x.l.length cap) x.l.length (ints x.l)] (RetV (.bool true) []) := by
  have hb := bytes_ok x p cap hc hm ha hn hn24 hfit
  have hl := (bytes_len hn24 hn hfit ha).1
  have hr0 := read_lay hn24 hn hfit ha [] 0
  rw [List.append_nil] at hr0
  rw [← hw] at hb hl hr0
  have hr := fun q => read_ok q want 0 (by omega) hr0
  refine fn_ret (vs := [_, _]) Tryd.func35 rfl Tryd.ntmps35 (by simp) ?_
  repeat (first | (first | refine J_region ?_ | refine JL_nil ?_ | refine J_seq ?_ | refine J_skip ?_ | refine J_condF rfl ?_) | (first | ((first | refine JL_step rfl ?_); first | refine JO_callE rfl (newreader_B want (Nat.le_trans hl (by decide))) rfl (fun q _ => ?_) | refine JO_q (by simp) (JQ_eqP rfl) rfl ?_ | refine JO_callE rfl (hr q) rfl (fun y hy => ?_) | refine JO_storeW rfl rfl (by rfl) (by rfl) (ins_one rfl) rfl ?_ | refine JO_move rfl rfl ?_ | refine JO_assign rfl rfl ?_ | refine JO_loadW rfl (by rfl) rfl ?_ | refine JO_extract rfl rfl rfl ?_ | refine JO_boxA rfl rfl (fun r => ?_) | refine JO_allocA rfl (fun r => ?_))))
  have hs := lsame_c x p y.1 cap y.2 (by omega)
  have he := end_okB q (0 + (want.length : Int))
  repeat (first | (first | refine JL_nil ?_ | refine J_ret ?_) | (first | ((first | refine JL_step rfl ?_ | refine JL_take rfl rfl ?_); first | refine JO_q (by simp) (JQ_eqS0 rfl rfl) rfl ?_ | refine JO_q (by simp) (JQ_eqI0 rfl) rfl ?_ | refine JO_move rfl rfl ?_ | refine JO_assign rfl rfl ?_ | refine JO_loadW rfl (by rfl) rfl ?_ | refine JO_pickT rfl rfl rfl ?_ | refine JO_callVP rfl (hb) rfl ?_ | refine JO_callVP rfl (hs) rfl ?_ | refine JO_callV' rfl (he) rfl ?_)))
  exact ret_oneV rfl rfl .nil
set_option maxHeartbeats 4000000 in
theorem fails9_c (s : List UInt8) (hs : s.length ≤ 100000) (c a : Int) (bs' : List UInt8) (pl' : Int) (h : readR s 0 = errR c a bs' pl') (hc : c ≠ 0) (te : TypeId) (fz : Nat × Nat) :
    Ct Tryd.prog 34 #[str s, .int .i64 c, .int .i64 a] [Gl te fz] (RetV (.bool true) [Gl te fz]) := by
  have hr := fun q => read_bad q s 0 (by omega) h hc
  refine fn_ret (vs := [_, _, _]) Tryd.func34 rfl Tryd.ntmps34 (by simp) ?_
  repeat (first | (first | refine J_region ?_ | refine JL_nil ?_ | refine J_seq ?_ | refine J_skip ?_ | refine J_condF rfl ?_) | (first | ((first | refine JL_step rfl ?_); first | refine JO_callE rfl (newreader_B s (Nat.le_trans hs (by decide))) rfl (fun q _ => ?_) | refine JO_q (by simp) (JQ_eqP rfl) rfl ?_ | refine JO_callE rfl (hr q) rfl (fun y hy => ?_) | refine JO_storeW rfl rfl (by rfl) (by rfl) (ins_one rfl) rfl ?_ | refine JO_move rfl rfl ?_ | refine JO_assign rfl rfl ?_ | refine JO_extract rfl rfl rfl ?_ | refine JO_allocA rfl (fun r => ?_))))
  have ht := told9_faultK y.1 c a hc te fz
  have hsm : Ct Tryd.prog 42 #[.agg (insC zeroI (.slice y.2.1 0 y.2.2)).toArray, .agg (insC zeroI (.slice none 0 0)).toArray] [Vw 1 (.slice y.2.1 0 y.2.2) 0 (ints []), Vw 1 (.slice none 0 0) 0 (ints [])] (RetV (.bool true) []) := lsame_c zeroI y.2.1 none y.2.2 0 (by decide)
  refine JL_heap vw0 ?_
  repeat (first | (first | refine JL_nil ?_ | refine J_ret ?_) | (first | ((first | refine JL_step rfl ?_ | refine JL_take rfl rfl ?_); first | refine JO_build (cs := [.int .i64 c, .int .i64 a]) rfl rfl rfl ?_ | refine JO_build (cs := insC zeroI (.slice none 0 0)) rfl rfl rfl ?_ | refine JO_move rfl rfl ?_ | refine JO_assign rfl rfl ?_ | refine JO_loadW rfl (by rfl) rfl ?_ | refine JO_pickT rfl rfl rfl ?_ | refine JO_callV' rfl (ht) rfl ?_ | refine JO_callVP rfl (hsm) rfl ?_)))
  exact ret_oneV rfl rfl Ent.sel
set_option maxRecDepth 8000 in
set_option maxHeartbeats 8000000 in
theorem works9_c (te : TypeId) (fz : Nat × Nat) : Ct Tryd.prog 30 #[] [Gl te fz] (RetV (.bool true) [Gl te fz]) := by
  have s0 : Ct Tryd.prog 35 #[.agg (insC ⟨0, 0, 0, 0, 0, []⟩ (.slice none 0 0)).toArray, str [0]] [Vw 1 (.slice none 0 0) 0 (ints [])] (RetV (.bool true) []) := isI_c ⟨0, 0, 0, 0, 0, []⟩ none 0 (by decide) (by decide) (by decide) (n := 0) rfl (by decide) wf0 _ wb0.symm
  have s1 : Ct Tryd.prog 35 #[.agg (insC ⟨1, (-2), 0, 0, 0, []⟩ (.slice none 0 0)).toArray, str [1, 3]] [Vw 1 (.slice none 0 0) 0 (ints [])] (RetV (.bool true) []) := isI_c ⟨1, (-2), 0, 0, 0, []⟩ none 0 (by decide) (by decide) (by decide) (n := 1) rfl (by decide) wf1 _ wb1.symm
  have s2 : Ct Tryd.prog 35 #[.agg (insC ⟨9, 0, 3, 0, 0, []⟩ (.slice none 0 0)).toArray, str [9, 3]] [Vw 1 (.slice none 0 0) 0 (ints [])] (RetV (.bool true) []) := isI_c ⟨9, 0, 3, 0, 0, []⟩ none 0 (by decide) (by decide) (by decide) (n := 9) rfl (by decide) wf2 _ wb2.symm
  have s3 : Ct Tryd.prog 35 #[.agg (insC ⟨16, 0, 1, 2, 0, []⟩ (.slice none 0 0)).toArray, str [16, 1, 2]] [Vw 1 (.slice none 0 0) 0 (ints [])] (RetV (.bool true) []) := isI_c ⟨16, 0, 1, 2, 0, []⟩ none 0 (by decide) (by decide) (by decide) (n := 16) rfl (by decide) wf3 _ wb3.symm
  have s4 : ∀ r : Nat, Ct Tryd.prog 35 #[.agg (insC ⟨11, 0, 0, 0, 0, [5]⟩ (.slice (some ⟨r, 0, none⟩) 1 1)).toArray, str [11, 5]] [Vw 1 (.slice (some ⟨r, 0, none⟩) 1 1) 1 (ints [5])] (RetV (.bool true) []) := fun r => isI_c ⟨11, 0, 0, 0, 0, [5]⟩ _ 1 (by decide) (by decide) (by decide) (n := 11) rfl (by decide) wf4 _ wb4.symm
  have s5 : ∀ r : Nat, Ct Tryd.prog 35 #[.agg (insC ⟨12, 0, 0, 0, 0, [127]⟩ (.slice (some ⟨r, 0, none⟩) 1 1)).toArray, str [12, 127]] [Vw 1 (.slice (some ⟨r, 0, none⟩) 1 1) 1 (ints [127])] (RetV (.bool true) []) := fun r => isI_c ⟨12, 0, 0, 0, 0, [127]⟩ _ 1 (by decide) (by decide) (by decide) (n := 12) rfl (by decide) wf5 _ wb5.symm
  have s6 : Ct Tryd.prog 35 #[.agg (insC ⟨18, 0, 1, 7, 0, []⟩ (.slice none 0 0)).toArray, str [18, 1, 7]] [Vw 1 (.slice none 0 0) 0 (ints [])] (RetV (.bool true) []) := isI_c ⟨18, 0, 1, 7, 0, []⟩ none 0 (by decide) (by decide) (by decide) (n := 18) rfl (by decide) wf6 _ wb6.symm
  have s7 : ∀ r : Nat, Ct Tryd.prog 35 #[.agg (insC ⟨19, 0, 0, 0, 0, [4, 9]⟩ (.slice (some ⟨r, 0, none⟩) 2 2)).toArray, str [19, 0, 2, 4, 9]] [Vw 1 (.slice (some ⟨r, 0, none⟩) 2 2) 2 (ints [4, 9])] (RetV (.bool true) []) := fun r => isI_c ⟨19, 0, 0, 0, 0, [4, 9]⟩ _ 2 (by decide) (by decide) (by decide) (n := 19) rfl (by decide) wf7 _ wb7.symm
  have s8 : ∀ r : Nat, Ct Tryd.prog 35 #[.agg (insC ⟨20, 0, 2, 0, 300, [0, 1]⟩ (.slice (some ⟨r, 0, none⟩) 2 2)).toArray, str [20, 2, 172, 2, 0, 1]] [Vw 1 (.slice (some ⟨r, 0, none⟩) 2 2) 2 (ints [0, 1])] (RetV (.bool true) []) := fun r => isI_c ⟨20, 0, 2, 0, 300, [0, 1]⟩ _ 2 (by decide) (by decide) (by decide) (n := 20) rfl (by decide) wf8 _ wb8.symm
  have s9 : ∀ r : Nat, Ct Tryd.prog 35 #[.agg (insC ⟨21, 0, 1, 0, 0, [0, 3]⟩ (.slice (some ⟨r, 0, none⟩) 2 2)).toArray, str [21, 1, 2, 0, 3]] [Vw 1 (.slice (some ⟨r, 0, none⟩) 2 2) 2 (ints [0, 3])] (RetV (.bool true) []) := fun r => isI_c ⟨21, 0, 1, 0, 0, [0, 3]⟩ _ 2 (by decide) (by decide) (by decide) (n := 21) rfl (by decide) wf9 _ wb9.symm
  have s10 : Ct Tryd.prog 35 #[.agg (insC ⟨24, 0, 0, 0, 0, []⟩ (.slice none 0 0)).toArray, str [24]] [Vw 1 (.slice none 0 0) 0 (ints [])] (RetV (.bool true) []) := isI_c ⟨24, 0, 0, 0, 0, []⟩ none 0 (by decide) (by decide) (by decide) (n := 24) rfl (by decide) wf10 _ wb10.symm
  have f0 := fails9_c [] (by decide) 3 0 _ _ ((read_D _ _).trans rfl) (by decide) te fz
  have f1 := fails9_c [25] (by decide) 11 0 _ _ ((read_D _ _).trans rfl) (by decide) te fz
  have f2 := fails9_c [16, 1, 1] (by decide) 2 0 _ _ ((read_D _ _).trans rfl) (by decide) te fz
  have f3 := fails9_c [19, 0, 0] (by decide) 2 0 _ _ ((read_D _ _).trans rfl) (by decide) te fz
  have f4 := fails9_c [9, 16] (by decide) 4 1 _ _ ((read_D _ _).trans rfl) (by decide) te fz
  have f5 := fails9_c [19, 0, 9] (by decide) 4 2 _ _ ((read_D _ _).trans rfl) (by decide) te fz
  have f6 := fails9_c [11, 128, 1] (by decide) 4 1 _ _ ((read_D _ _).trans rfl) (by decide) te fz
  refine fn_ret (vs := []) Tryd.func30 rfl Tryd.ntmps30 (by simp) ?_
  refine J_heap vw0 ?_
  repeat (first | (first | refine J_region ?_ | refine JL_nil ?_ | refine J_seq ?_ | refine J_ret ?_) | (first | ((first | refine JL_step rfl ?_ | refine JL_take rfl rfl ?_); first | refine JO_build (cs := insC ⟨0, 0, 0, 0, 0, []⟩ (.slice none 0 0)) rfl rfl rfl ?_ | refine JO_build (cs := insC ⟨1, (-2), 0, 0, 0, []⟩ (.slice none 0 0)) rfl rfl rfl ?_ | refine JO_build (cs := insC ⟨9, 0, 3, 0, 0, []⟩ (.slice none 0 0)) rfl rfl rfl ?_ | refine JO_build (cs := insC ⟨16, 0, 1, 2, 0, []⟩ (.slice none 0 0)) rfl rfl rfl ?_ | refine JO_buildV [5] rfl rfl rfl wd4 rfl (by decide) rfl (fun r => ?_) | refine JO_build (cs := insC ⟨11, 0, 0, 0, 0, [5]⟩ (.slice (some ⟨_, 0, none⟩) 1 1)) rfl rfl rfl ?_ | refine JO_buildV [127] rfl rfl rfl wd5 rfl (by decide) rfl (fun r => ?_) | refine JO_build (cs := insC ⟨12, 0, 0, 0, 0, [127]⟩ (.slice (some ⟨_, 0, none⟩) 1 1)) rfl rfl rfl ?_ | refine JO_build (cs := insC ⟨18, 0, 1, 7, 0, []⟩ (.slice none 0 0)) rfl rfl rfl ?_ | refine JO_buildV [4, 9] rfl rfl rfl wd7 rfl (by decide) rfl (fun r => ?_) | refine JO_build (cs := insC ⟨19, 0, 0, 0, 0, [4, 9]⟩ (.slice (some ⟨_, 0, none⟩) 2 2)) rfl rfl rfl ?_ | refine JO_buildV [0, 1] rfl rfl rfl wd8 rfl (by decide) rfl (fun r => ?_) | refine JO_build (cs := insC ⟨20, 0, 2, 0, 300, [0, 1]⟩ (.slice (some ⟨_, 0, none⟩) 2 2)) rfl rfl rfl ?_ | refine JO_buildV [0, 3] rfl rfl rfl wd9 rfl (by decide) rfl (fun r => ?_) | refine JO_build (cs := insC ⟨21, 0, 1, 0, 0, [0, 3]⟩ (.slice (some ⟨_, 0, none⟩) 2 2)) rfl rfl rfl ?_ | refine JO_build (cs := insC ⟨24, 0, 0, 0, 0, []⟩ (.slice none 0 0)) rfl rfl rfl ?_ | refine JO_move rfl rfl ?_ | refine JO_assign rfl rfl ?_ | refine JO_pickT rfl rfl rfl ?_ | refine JO_callVP rfl (s0) rfl ?_ | refine JO_callVP rfl (s1) rfl ?_ | refine JO_callVP rfl (s2) rfl ?_ | refine JO_callVP rfl (s3) rfl ?_ | refine JO_callVP rfl (s4 _) rfl ?_ | refine JO_callVP rfl (s5 _) rfl ?_ | refine JO_callVP rfl (s6) rfl ?_ | refine JO_callVP rfl (s7 _) rfl ?_ | refine JO_callVP rfl (s8 _) rfl ?_ | refine JO_callVP rfl (s9 _) rfl ?_ | refine JO_callVP rfl (s10) rfl ?_ | refine JO_callVP rfl (f0) rfl ?_ | refine JO_callVP rfl (f1) rfl ?_ | refine JO_callVP rfl (f2) rfl ?_ | refine JO_callVP rfl (f3) rfl ?_ | refine JO_callVP rfl (f4) rfl ?_ | refine JO_callVP rfl (f5) rfl ?_ | refine JO_callVP rfl (f6) rfl ?_)))
  exact ret_oneV rfl rfl Ent.sel
end Go.Proofs.YtfelcdbhlahehaaDoor

/- Layer 9: InsnReads' walk. -/
namespace Go.Proofs.YtfelcdbhlahehaaDoor
open Go Go.Sp
theorem told9_E (v : Value) (c a : Int) (te : TypeId) (fz : Nat × Nat) : Ct Tryd.prog 27 #[v, faultV c a] [Er v c a, Gl te fz] (RetV (.bool true) [Gl te fz]) :=
  ct_er (fun h1 h2 h3 => by
    subst h1; subst h2; subst h3
    exact Ct.post (told9_none.frame [Gl te fz]) fun _ _ ⟨_, ⟨he, hL⟩, hL'⟩ => ⟨_, Ent.refl _, he, by rw [hL', hL]; rfl⟩) (fun q h1 h2 => by subst h2; exact told9_faultK q c a h1 te fz)
attribute [local irreducible] callFunc Go.method J JL JO JR JR1 JRl Ct JG JM JM1 JW JW1 JQ JQ0 JS CtD LeavesQ ints RdB DrB Er by8 Gl readR
set_option maxHeartbeats 8000000 in
theorem insnReads_c (s : List UInt8) (hs : s.length ≤ maxLen) (te : TypeId) (fz : Nat × Nat) :
    Ct Tryd.prog 8 #[str s] [Gl te fz] (RetV (.bool true) []) := by
  have hmn : min s.length 200 ≤ s.length := Nat.min_le_left _ _
  have hl : (s.take (min s.length 200)).length ≤ 200 := by rw [List.length_take]; omega
  have hl2 : (s.take (min s.length 200)).length ≤ maxLen := Nat.le_trans hl (by decide)
  refine fn_ret (vs := [_]) Tryd.func8 rfl Tryd.ntmps8 (by simp) ?_
  repeat (first | (first | refine J_region ?_ | refine JL_nil ?_ | refine J_seq ?_ | refine J_block ?_ | refine J_skip ?_ | refine J_condF rfl ?_) | (first | ((first | refine JL_step rfl ?_); first | refine JO_q (by simp) (JQ_lenB rfl) rfl ?_ | refine JO_minN (n := 200) rfl rfl rfl ?_ | refine JO_q (by simp) (JQ_headS (bs := s) (h := min s.length 200) rfl rfl hmn) rfl ?_ | refine JO_callE rfl (newreader_B (s.take (min s.length 200)) hl2) rfl (fun q _ => ?_) | refine JO_q (by simp) (JQ_eqP rfl) rfl ?_ | refine JO_build (cs := [str (s.take (min s.length 200)), .int .i64 0, .int .i64 0]) rfl rfl rfl ?_ | refine JO_move rfl rfl ?_ | refine JO_assign rfl rfl ?_ | refine JO_boxA rfl rfl (fun r => ?_))))
  revert r
  intro d
  generalize s.take (min s.length 200) = m at *
  refine J_heap (L' := [RdB q m 0, DrB d m 0, Gl te fz]) ((Ent.sel (K := [Dr d m 0 0, RdB q m 0, Gl te fz])).trans ((drb_close (bs := m) (pl := 0) (k := 0) rfl (Nat.zero_le _) rfl rfl (Int.le_refl _) (by omega)).trans Ent.sel)) ?_
  refine J_loop (β := { y : Nat × List UInt8 × Int // 0 ≤ y.2.2 ∧ y.2.2 + y.2.1.length = m.length ∧ y.1 ≤ y.2.2 }) (fun y => [(3, ptr q), (4, ptr d), (5, .int .i64 (y.1.1 : Int))]) (fun _ => []) (fun y => [RdB q y.1.2.1 y.1.2.2, DrB d y.1.2.1 y.1.2.2, Gl te fz]) (fun y => 201 - y.1.1) ⟨(0, m, 0), Int.le_refl _, by simp, Int.le_refl _⟩ ?_ rfl Ent.sel ?_
  · (repeat (first | exact sub_nil _ | refine sub_cons rfl ?_))
  rintro ⟨⟨i, bs, pl⟩, hp0, hp1, hp2⟩
  dsimp only at hp0 hp1 hp2 ⊢
  have hr := read_c q bs pl ⟨hp0, by omega⟩
  have hd := dread_c d bs pl ⟨hp0, by omega⟩
  have hlen := read_len bs pl
  obtain ⟨r1, r2, r3⟩ := read_pl bs pl hp0
  have hnil : (readR bs pl).c = 0 → bs ≠ [] := by
    rintro h rfl
    rw [read_nil] at h
    exact absurd (show (3 : Int) = 0 from h) (by decide)
  generalize readR bs pl = R at *
  rcases R with ⟨x, c, a, bs2, pl2⟩
  unfold ReadQ at hr
  unfold DReadQ at hd
  dsimp only at *
  repeat (first | (first | refine J_region ?_ | refine JL_nil ?_ | refine J_seq ?_ | refine J_block ?_ | refine J_skip ?_ | refine J_condT rfl ?_) | (first | ((first | refine JL_step rfl ?_); first | refine JO_q (by simp) (JQ_lssT rfl rfl (by omega)) rfl ?_ | refine JO_callE rfl hr rfl (fun y hy => ?_) | refine JO_callE rfl hd rfl (fun z hz => ?_) | refine JO_storeW rfl rfl (by rfl) (by rfl) (ins_one rfl) rfl ?_ | refine JO_storeW rfl rfl (by rfl) (by rfl) (by simp [Value.oneCell']) rfl ?_ | refine JO_move rfl rfl ?_ | refine JO_assign rfl rfl ?_ | refine JO_loadW rfl (by rfl) rfl ?_ | refine JO_extract rfl rfl rfl ?_ | refine JO_allocA rfl (fun r => ?_))))
  have hsm := same_c x y.2.1 z.1 y.2.2 z.2 (by omega)
  have ht := told9_E y.1 c a te fz
  have hq := place_B q bs2 pl2
  have hdq := dplace_B d bs2 pl2
  have hw := works9_c te fz
  by_cases hc : c = 0
  · have := r3 (hnil hc)
    subst hc
    repeat (first | (first | refine J_region ?_ | refine JL_nil ?_ | refine J_seq ?_ | refine J_skip ?_ | refine J_condF rfl ?_) | (first | ((first | refine JL_step rfl ?_ | refine JL_take rfl rfl ?_); first | refine JO_q (by simp) (JQ_neF rfl rfl (by omega)) rfl ?_ | refine JO_addN (b := 1) rfl rfl (by omega) rfl ?_ | refine JO_move rfl rfl ?_ | refine JO_assign rfl rfl ?_ | refine JO_field0 rfl rfl ?_ | refine JO_load rfl rfl ?_ | refine JO_loadW rfl (by rfl) rfl ?_ | refine JO_pickF rfl rfl rfl ?_ | refine JO_not rfl rfl ?_ | refine JO_callVP rfl (hsm) rfl ?_ | refine JO_callV' rfl (ht) rfl ?_ | refine JO_callV' rfl (hq) rfl ?_ | refine JO_callV' rfl (hdq) rfl ?_)))
    exact ⟨⟨(i + 1, bs2, pl2), by simp only; omega, by simp only; omega, by simp only; omega⟩, by simp only; omega, by (repeat (first | exact sub_nil _ | refine sub_cons rfl ?_)), rfl, Ent.sel⟩
  · repeat (first | (first | refine J_region ?_ | refine JL_nil ?_ | refine J_seq ?_ | refine J_skip ?_ | refine J_condT rfl ?_ | refine J_condF rfl ?_ | refine J_ret ?_) | (first | ((first | refine JL_step rfl ?_ | refine JL_take rfl rfl ?_); first | refine JO_q (by simp) (JQ_neT rfl rfl (by omega)) rfl ?_ | refine JO_q (by simp) (JQ_neF rfl rfl (by omega)) rfl ?_ | refine JO_move rfl rfl ?_ | refine JO_assign rfl rfl ?_ | refine JO_field0 rfl rfl ?_ | refine JO_load rfl rfl ?_ | refine JO_loadW rfl (by rfl) rfl ?_ | refine JO_pickF rfl rfl rfl ?_ | refine JO_not rfl rfl ?_ | refine JO_callVP rfl (hsm) rfl ?_ | refine JO_callV' rfl (ht) rfl ?_ | refine JO_callV' rfl (hq) rfl ?_ | refine JO_callV' rfl (hdq) rfl ?_ | refine JO_callVP rfl (hw) rfl ?_)))
    exact ret_oneV rfl rfl Ent.sel
end Go.Proofs.YtfelcdbhlahehaaDoor

/- The library, 48: equal bools. -/
namespace Go.Sp
open Go
section
variable {P : Program} {N : Nat} {E : Env} {D : List Deferred} {L L0 : List HP} {Q : Post} {m : Nat}
variable {d : Option Nat} {ty : TypeId} {pos : String} {after : Array Edge} {g : Option (Nat × Bool)}
theorem JQ_eqB {x y : Operand} {t u : TypeId} [TU P t .bool] {m n : Bool} (hx : ev E x = some (.bool m)) (hy : ev E y = some (.bool n)) : JQ P N ⟨d, .binOp .eql t x y u, ty, pos, after, g⟩ E D L (.bool (m == n)) := fun F a hr w hs => by
  simp [execOp, hr.eval hx, hr.eval hy, eqGuard, binOp, run_eqB]
theorem JQ_eqB0 {x y : Operand} {t u : TypeId} [TU P t .bool] {m : Bool} (hx : ev E x = some (.bool m)) (hy : ev E y = some (.bool m)) : JQ P N ⟨d, .binOp .eql t x y u, ty, pos, after, g⟩ E D L (.bool true) := by
  have := JQ_eqB (P := P) (N := N) (D := D) (L := L) (d := d) (ty := ty) (pos := pos) (after := after) (g := g) (t := t) (u := u) hx hy
  rwa [beq_self_eq_true] at this
end
end Go.Sp

/- Layer 9: InsnCuts' walk, InsnPuts' walk. -/
namespace Go.Proofs.YtfelcdbhlahehaaDoor
open Go Go.Sp
theorem chk_cases (x : Ins) : chkA x ≠ 0 ∨ ∃ n : Nat, n ≤ 24 ∧ x.op = (n : Int) ∧ fitsP (rowOf n).1 x ∧ chkA x = 0 := by
  by_cases h : x.op < 0 ∨ 24 < x.op
  · left; rw [chk_out h]; decide
  · obtain ⟨n, hn⟩ := Int.eq_ofNat_of_zero_le (show 0 ≤ x.op by omega)
    by_cases hf : fitsP (rowOf n).1 x
    · right; exact ⟨n, by omega, hn, hf, chk_ok hn (by omega) hf⟩
    · left; rw [chk_bad hn (by omega) hf]; decide
theorem few_len (x : Ins) : (fewI x).l.length ≤ x.l.length ∧ (fewI x).l.length ≤ 12 := by simp [fewI]; omega
theorem few_a (x : Ins) : (fewI x).a = x.a := rfl
attribute [local irreducible] callFunc Go.method J JL JO JR JR1 JRl Ct JG JM JM1 JW JW1 JQ JQ0 JS CtD LeavesQ ints RdB WrB Er by8 Gl bytesL fitsP chkA fewI
set_option maxHeartbeats 8000000 in
theorem insnCuts_c (x : Ins) (p : Option Addr) (cap : Nat) (hc : x.l.length ≤ cap) (ha : -9223372036854775808 ≤ x.a ∧ x.a ≤ 9223372036854775807) (k : Nat) (hk : k < 256) (te : TypeId) (fz : Nat × Nat) :
    Ct Tryd.prog 9 #[.agg (insC x (.slice p x.l.length cap)).toArray, .int .u8 (k : Int)] [Vw 1 (.slice p x.l.length cap) x.l.length (ints x.l), Gl te fz] (RetV (.bool true) []) := by
  have hfw := few_c x p cap hc
  obtain ⟨l1, l2⟩ := few_len x
  rw [← few_a x] at ha
  generalize fewI x = y at *
  have hcy : y.l.length ≤ cap := by omega
  have hw := works9_c te fz
  have hck := check_c y p cap hcy (by omega)
  refine fn_ret (vs := [_, _]) Tryd.func9 rfl Tryd.ntmps9 (by simp) ?_
  rcases chk_cases y with h0 | ⟨n, hn24, hn, hfit, h0⟩
  · have hb := bytes_bad y p cap hcy (by omega) h0
    repeat (first | (first | refine J_region ?_ | refine JL_nil ?_ | refine J_seq ?_ | refine J_skip ?_ | refine J_condT rfl ?_ | refine J_condF rfl ?_ | refine J_ret ?_) | (first | ((first | refine JL_step rfl ?_); first | refine JO_q (by simp) (JQ_eqS0 rfl rfl) rfl ?_ | refine JO_q (by simp) (JQ_neT rfl rfl (by omega)) rfl ?_ | refine JO_move rfl rfl ?_ | refine JO_assign rfl rfl ?_ | refine JO_loadW rfl (by rfl) rfl ?_ | refine JO_not rfl rfl ?_ | refine JO_boxA rfl rfl (fun r => ?_) | refine JO_callVP rfl (hw) rfl ?_ | refine JO_callVP rfl (hfw) rfl ?_ | refine JO_callVP rfl (hb) rfl ?_ | refine JO_callVP rfl (hck) rfl ?_)))
    exact ret_oneV rfl rfl Ent.sel
  · have hb := bytes_ok y p cap hcy (by omega) ha hn hn24 hfit
    obtain ⟨b1, b2⟩ := bytes_len hn24 hn hfit ha
    have hpp := fun q r => read_pp hn24 hn hfit ha q 0 r
    have hne : bytesL (rowOf n) y ≠ [] := by intro h; rw [h] at b2; simp at b2
    generalize bytesL (rowOf n) y = m at *
    have hkm : k % m.length < m.length := Nat.mod_lt _ (by omega)
    have hkl : (m.take (k % m.length)).length = k % m.length := by rw [List.length_take]; omega
    have hf := fails9_c (m.take (k % m.length)) (by omega) 3 (k % m.length : Nat) _ _ (by
      rw [hpp _ ⟨m.drop (k % m.length), by
        intro h
        have := congrArg List.length h
        rw [List.length_drop, List.length_nil] at this
        omega, (List.take_append_drop _ _).symm⟩, shortR, hkl, Int.zero_add]) (by decide) te fz
    repeat (first | (first | refine J_region ?_ | refine JL_nil ?_ | refine J_seq ?_ | refine J_skip ?_ | refine J_condF rfl ?_ | refine J_ret ?_) | (first | ((first | refine JL_step rfl ?_); first | refine JO_q (by simp) (JQ_lenB rfl) rfl ?_ | refine JO_q (by simp) (JQ_eqS1 (a := m) (b := []) rfl rfl hne) rfl ?_ | refine JO_q (by simp) (JQ_convF (a := k) rfl (wrap_i64n (by omega))) rfl ?_ | refine JO_q (by simp) (JQ_remF (a := k) (b := m.length) rfl rfl (by omega)) rfl ?_ | refine JO_q (by simp) (JQ_headS (bs := m) (h := k % m.length) rfl rfl (by omega)) rfl ?_ | refine JO_move rfl rfl ?_ | refine JO_assign rfl rfl ?_ | refine JO_loadW rfl (by rfl) rfl ?_ | refine JO_not rfl rfl ?_ | refine JO_boxA rfl rfl (fun r => ?_) | refine JO_callVP rfl (hw) rfl ?_ | refine JO_callVP rfl (hfw) rfl ?_ | refine JO_callVP rfl (hb) rfl ?_ | refine JO_callVP rfl (hf) rfl ?_)))
    exact ret_oneV rfl rfl Ent.sel
/-- What an instruction gives, both sides at once. -/
theorem puts_both (y : Ins) (p : Option Addr) (cap : Nat) (hc : y.l.length ≤ cap) (hm : y.l.length ≤ 1000) (ha : -9223372036854775808 ≤ y.a ∧ y.a ≤ 9223372036854775807) : ∃ sfx : List UInt8, sfx.length ≤ 131 ∧
    (∀ (w : Nat) (pre : List UInt8), pre.length ≤ 900000 → Ct Tryd.prog 40 #[ptr w, .agg (insC y (.slice p y.l.length cap)).toArray] [Vw 1 (.slice p y.l.length cap) y.l.length (ints y.l), WrB w pre] (RetV (.int .i64 (chkA y)) [WrB w (pre ++ sfx), Vw 1 (.slice p y.l.length cap) y.l.length (ints y.l)])) ∧
    Ct Tryd.prog 46 #[.agg (insC y (.slice p y.l.length cap)).toArray] [Vw 1 (.slice p y.l.length cap) y.l.length (ints y.l)] (RetV (.tuple #[str sfx, .int .i64 (chkA y)]) []) := by
  rcases chk_cases y with h0 | ⟨n, hn24, hn, hfit, h0⟩
  · refine ⟨[], by simp, fun w pre hp => ?_, dbytes_bad y p cap hc (by omega) h0⟩
    rw [List.append_nil]
    exact Ct.post (Ct.heap ((Ent.dup (Vw 1 (.slice p y.l.length cap) y.l.length (ints y.l))).trans (Ent.sel (K := [Vw 1 (.slice p y.l.length cap) y.l.length (ints y.l), WrB w pre, Vw 1 (.slice p y.l.length cap) y.l.length (ints y.l)]))) ((put_bad w pre y p cap hc (by omega) h0).frame [WrB w pre, Vw 1 (.slice p y.l.length cap) y.l.length (ints y.l)])) fun _ _ ⟨_, ⟨he, hL⟩, hL'⟩ => ⟨_, Ent.refl _, he, by rw [hL', hL]; rfl⟩
  · obtain ⟨b1, b2⟩ := bytes_len hn24 hn hfit ha
    rw [h0]
    exact ⟨_, b1, fun w pre hp => Ct.post (Ct.heap ((Ent.dup (Vw 1 (.slice p y.l.length cap) y.l.length (ints y.l))).trans (Ent.sel (K := [Vw 1 (.slice p y.l.length cap) y.l.length (ints y.l), WrB w pre, Vw 1 (.slice p y.l.length cap) y.l.length (ints y.l)]))) ((put_ok w pre y p cap hc hm hp ha hn hn24 hfit).frame [Vw 1 (.slice p y.l.length cap) y.l.length (ints y.l)])) fun _ _ ⟨_, ⟨he, hL⟩, hL'⟩ => ⟨_, Ent.refl _, he, by rw [hL', hL]; rfl⟩, dbytes_ok y p cap hc hm ha hn hn24 hfit⟩
set_option maxHeartbeats 8000000 in
theorem insnPuts_c (x : Ins) (p : Option Addr) (cap : Nat) (hc : x.l.length ≤ cap) (ha : -9223372036854775808 ≤ x.a ∧ x.a ≤ 9223372036854775807) (s : List UInt8) (hs : s.length ≤ maxLen) (op : Int) (te : TypeId) (fz : Nat × Nat) :
    Ct Tryd.prog 12 #[.agg (insC x (.slice p x.l.length cap)).toArray, str s, .int .i64 op] [Vw 1 (.slice p x.l.length cap) x.l.length (ints x.l), Gl te fz] (RetV (.bool true) []) := by
  have hfw := few_c x p cap hc
  obtain ⟨l1, l2⟩ := few_len x
  rw [← few_a x] at ha
  generalize fewI x = y at *
  have hcy : y.l.length ≤ cap := by omega
  have hw := works9_c te fz
  have hck := check_c y p cap hcy (by omega)
  obtain ⟨sfx, hsf, hp, hd⟩ := puts_both y p cap hcy (by omega) ha
  generalize chkA y = e at *
  have hmn : min s.length 20 ≤ s.length := Nat.min_le_left _ _
  have hl : (s.take (min s.length 20)).length ≤ 20 := by rw [List.length_take]; omega
  generalize hsm : s.take (min s.length 20) = m at *
  refine fn_ret (vs := [_, _, _]) Tryd.func12 rfl Tryd.ntmps12 (by simp) ?_
  repeat (first | (first | refine J_region ?_ | refine JL_nil ?_ | refine J_seq ?_ | refine J_skip ?_ | refine J_condF rfl ?_) | (first | ((first | refine JL_step rfl ?_); first | refine JO_q (by simp) (JQ_lenB rfl) rfl ?_ | refine JO_minN (n := 20) rfl rfl rfl ?_ | refine JO_q (by simp) (JQ_headE rfl rfl hmn hsm) rfl ?_ | refine JO_callE rfl newwriter_B rfl (fun w _ => ?_) | refine JO_q (by simp) (JQ_eqP rfl) rfl ?_ | refine JO_storeW rfl rfl (by rfl) (by rfl) (ins_one rfl) rfl ?_ | refine JO_move rfl rfl ?_ | refine JO_assign rfl rfl ?_ | refine JO_loadW rfl (by rfl) rfl ?_ | refine JO_boxA rfl rfl (fun r => ?_) | refine JO_callVP rfl (hfw) rfl ?_)))
  have hwp := wput_B w [] m (by simp only [List.length_nil]; omega)
  have hp1 := hp w m (by omega)
  rw [List.nil_append] at hwp
  repeat (first | (first | refine J_region ?_ | refine JL_nil ?_ | refine J_seq ?_) | (first | ((first | refine JL_step rfl ?_); first | refine JO_move rfl rfl ?_ | refine JO_assign rfl rfl ?_ | refine JO_loadW rfl (by rfl) rfl ?_ | refine JO_extract rfl rfl rfl ?_ | refine JO_callV' rfl (hwp) rfl ?_ | refine JO_callV' rfl (hp1) rfl ?_ | refine JO_callVP rfl (hd) rfl ?_)))
  have hwt := wtext_B w (m ++ sfx)
  have k1 := comm_c op
  have k2 := dcomm_c op
  have k3 := ends_c op
  have k4 := dends_c op
  have k5 := comm_c y.op
  have k6 := dcomm_c y.op
  revert r
  intro n3
  unfold insC at hck ⊢
  repeat (first | refine J_regionG ?_ | refine JG_fin rfl ?_ | refine JG_n rfl rfl rfl (by kernel_rfl) (by kernel_rfl) rfl Ent.sel (by first | exact JQ_eqI00 rfl rfl | exact JQ_eqS0 rfl rfl | exact JQ_eqB0 rfl rfl | exact JQ_addS rfl rfl (by omega) | exact JQ_loadA [.int .i64 y.op, .int .i64 y.a, .int .i64 y.b, .int .i64 y.c, .int .i64 y.d, .slice p y.l.length cap] rfl (fun i u hu => lds_block (by rw [Nat.zero_add]; exact hu)) rfl | exact JQ_move rfl | exact JQ_assign rfl | exact JQ_loadB rfl | exact JQ_field0 rfl | exact JQ_pickT rfl rfl) ?_ | refine JG_nW rfl rfl rfl rfl (by kernel_rfl) (by kernel_rfl) rfl Ent.sel (by first | exact JQ_eqI00 rfl rfl | exact JQ_eqS0 rfl rfl | exact JQ_eqB0 rfl rfl | exact JQ_addS rfl rfl (by omega) | exact JQ_loadA [.int .i64 y.op, .int .i64 y.a, .int .i64 y.b, .int .i64 y.c, .int .i64 y.d, .slice p y.l.length cap] rfl (fun i u hu => lds_block (by rw [Nat.zero_add]; exact hu)) rfl | exact JQ_move rfl | exact JQ_loadB rfl | exact JQ_field0 rfl) ?_ | refine JG_jo rfl rfl rfl tame_call (JO_callVP rfl (hck) rfl ⟨Ent.sel, ?_⟩) | refine JG_jo rfl rfl rfl tame_call (JO_callV' rfl (hwt) rfl ⟨Ent.sel, ?_⟩) | refine JG_jo rfl rfl rfl tame_call (JO_callVP rfl (k1) rfl ⟨Ent.sel, ?_⟩) | refine JG_jo rfl rfl rfl tame_call (JO_callVP rfl (k2) rfl ⟨Ent.sel, ?_⟩) | refine JG_jo rfl rfl rfl tame_call (JO_callVP rfl (k3) rfl ⟨Ent.sel, ?_⟩) | refine JG_jo rfl rfl rfl tame_call (JO_callVP rfl (k4) rfl ⟨Ent.sel, ?_⟩) | refine JG_jo rfl rfl rfl tame_call (JO_callVP rfl (k5) rfl ⟨Ent.sel, ?_⟩) | refine JG_jo rfl rfl rfl tame_call (JO_callVP rfl (k6) rfl ⟨Ent.sel, ?_⟩) | refine JG_jo rfl rfl rfl tame_call (JO_callVP rfl (hw) rfl ⟨Ent.sel, ?_⟩))
  repeat (first | (first | refine J_ret ?_) | (first | ((first | refine JL_step rfl ?_); first | refine JO_move rfl rfl ?_)))
  exact ret_oneV rfl rfl Ent.sel
end Go.Proofs.YtfelcdbhlahehaaDoor
