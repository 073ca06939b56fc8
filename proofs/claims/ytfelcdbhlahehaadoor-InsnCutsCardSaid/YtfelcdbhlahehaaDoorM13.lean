/- Layer 3: the plain law of sections. -/
import Derived.Test.YtfelcdbhlahehaaDoorM4
import Derived.Test.YtfelcdbhlahehaaDoorM8
import Derived.Test.YtfelcdbhlahehaaDoorM11
import Derived.Test.YtfelcdbhlahehaaDoorM10
import Derived.Test.YtfelcdbhlahehaaDoorM12
namespace Go.Proofs.YtfelcdbhlahehaaDoor
open Go Go.Sp
end Go.Proofs.YtfelcdbhlahehaaDoor

/- Layer 9: the plain law: instructions come back from their bytes. -/
namespace Go.Proofs.YtfelcdbhlahehaaDoor
open Go Go.Sp
theorem sm_lay {m : Nat} {most : Int} (h : (m : Int) ≤ most) (hm : m < 18446744073709551616) (r : List UInt8) (pl : Int) : smA (encU m ++ r) pl most = (m, 0, 0) ∧ (uA (encU m ++ r) pl).rest = r ∧ (uA (encU m ++ r) pl).pl = pl + (encU m).length := by
  have hu := uA_enc hm r pl
  refine ⟨?_, by rw [hu], by rw [hu]⟩
  unfold smA
  rw [hu]
  simp only [ne_eq, not_true_eq_false, if_false]
  rw [if_neg (by omega)]
theorem small_lay {m : Nat} {most : Int} (h : (m : Int) ≤ most) (hm : m < 18446744073709551616) (k : Nat → RK) (r : List UInt8) (pl : Int) : smallK most k (encU m ++ r) pl = k m r (pl + (encU m).length) := by
  obtain ⟨h1, h2, h3⟩ := sm_lay h hm r pl
  unfold smallK
  rw [h1, h2, h3]
  rfl
theorem opt_lay {m n : Int} (h : inP n m) (h1 : -1 ≤ m) (hn : n ≤ 1000) (k : Int → RK) (r : List UInt8) (pl : Int) : optK m k (optL m n ++ r) pl = k n r (pl + (optL m n).length) := by
  unfold inP at h
  by_cases hm : m = -1
  · rw [optK_none hm, optL_none hm]
    obtain rfl : n = 0 := by omega
    simp
  · obtain ⟨z, rfl⟩ := Int.eq_ofNat_of_zero_le h.1
    rw [optK_some hm, optL_some hm, small_lay (by omega) (by omega)]
theorem list_lay {m : Int} (hm : m ≤ 1000) (k : List Nat → RK) : ∀ (l : List Int) (acc : List Nat) (r : List UInt8) (pl : Int), (∀ z ∈ l, 0 ≤ z ∧ z ≤ m) → listK l.length m acc k (l.flatMap encI ++ r) pl = k (acc ++ l.map Int.toNat) r (pl + (l.flatMap encI).length) := by
  intro l
  induction l with
  | nil => intro acc r pl _; simp [listK]
  | cons z l ih =>
    intro acc r pl h
    have hz := h z (by simp)
    rw [List.length_cons, listK_succ, List.flatMap_cons, List.append_assoc, show encI z = encU z.toNat from rfl, small_lay (by omega) (by omega), ih _ _ _ (fun y hy => h y (by simp [hy]))]
    simp only [List.map_cons, List.append_assoc, List.singleton_append, List.length_append]
    congr 1
    push_cast
    omega
theorem natI_toNat {l : List Int} (h : ∀ z ∈ l, 0 ≤ z) : natI (l.map Int.toNat) = l := by
  induction l with
  | nil => rfl
  | cons z l ih =>
    have h1 := ih (fun y hy => h y (by simp [hy]))
    have h2 := h z (by simp)
    unfold natI at h1 ⊢
    simp only [List.map_cons, List.cons.injEq]
    exact ⟨by omega, h1⟩
theorem row_low {n : Nat} (h : n ≤ 24) : -1 ≤ (rowOf n).1.b ∧ -1 ≤ (rowOf n).1.c ∧ -1 ≤ (rowOf n).1.d := by
  match n, h with
  | 0, _ | 1, _ | 2, _ | 3, _ | 4, _ | 5, _ | 6, _ | 7, _ | 8, _ | 9, _ | 10, _ | 11, _ | 12, _ | 13, _ | 14, _ | 15, _ | 16, _ | 17, _ | 18, _ | 19, _ | 20, _ | 21, _ | 22, _ | 23, _ | 24, _ => exact ⟨by decide, by decide, by decide⟩
  | k + 25, h => omega
/-- The text behind the op. -/
def tailL (r : Row) (x : Ins) : List UInt8 := optL r.b x.b ++ (optL r.c x.c ++ (optL r.d x.d ++ ((if (r.least : Int) < (r.most : Int) then encU x.l.length else []) ++ x.l.flatMap encI)))
theorem bytes_tail {n : Nat} {x : Ins} (h : n ≤ 24) (hx : x.op = (n : Int)) (h1 : n ≠ 1) (hl : x.l.length ≤ (rowOf n).1.most) : bytesL (rowOf n) x = UInt8.ofNat n :: tailL (rowOf n).1 x := by
  rw [bytes_of h hx h1 hl]
  simp [tailL]
theorem okL_all {un : Bool} {rl : Int} {l : List Int} (h : okL un rl l) : ∀ z ∈ l, 0 ≤ z ∧ z ≤ rl := fun z hz => by
  obtain ⟨i, hi, rfl⟩ := List.mem_iff_getElem.1 hz
  exact (h i hi _ (List.getElem?_eq_getElem hi)).2
theorem many_lay {r : Row} {l : List Int} (h1 : r.least ≤ l.length) (h2 : l.length ≤ r.most) (h3 : r.l ≤ 1000) (h4 : r.most ≤ 8) (h : ∀ z ∈ l, 0 ≤ z ∧ z ≤ r.l) (k : List Nat → RK) (rest : List UInt8) (pl : Int) :
    manyK r k ((if (r.least : Int) < (r.most : Int) then encU l.length else []) ++ (l.flatMap encI ++ rest)) pl = k (l.map Int.toNat) rest (pl + ((if (r.least : Int) < (r.most : Int) then encU l.length else []) ++ l.flatMap encI).length) := by
  by_cases hlm : (r.least : Int) < (r.most : Int)
  · rw [manyK_lt hlm, if_pos hlm, small_lay (by omega) (by omega), list_lay h3 _ _ _ _ _ h]
    simp only [List.nil_append, List.length_append]
    congr 1
    push_cast
    omega
  · rw [manyK_ge hlm, if_neg hlm, show r.least = l.length from by omega, List.nil_append, list_lay h3 _ _ _ _ _ h]
    simp
theorem oper_lay {n : Nat} {x : Ins} (h24 : n ≤ 24) (hx : x.op = (n : Int)) (h1 : n ≠ 1) (hf : fitsP (rowOf n).1 x) (rest : List UInt8) (pl : Int) : operK (rowOf n).1 n (tailL (rowOf n).1 x ++ rest) pl = ⟨x, 0, 0, rest, pl + (tailL (rowOf n).1 x).length⟩ := by
  obtain ⟨⟨f0, f1, f2⟩, ⟨f3, f4, f5⟩, f6, f7⟩ := hf
  obtain ⟨b1, b2, b3, b4⟩ := row_small h24
  obtain ⟨b5, b6⟩ := row_few h24
  obtain ⟨b7, b8, b9⟩ := row_low h24
  have hall := okL_all f7
  have ha : x.a = 0 := f0.resolve_left (by rw [row_whole h24 h1]; decide)
  unfold operK
  rw [if_neg (by rw [row_whole h24 h1]; decide)]
  unfold tailL
  simp only [List.append_assoc]
  have i1 := (in_bound f3 b1).2
  have i2 := (in_bound f4 b2).2
  have i3 := (in_bound f5 b3).2
  rw [opt_lay f3 b7 i1, opt_lay f4 b8 i2, opt_lay f5 b9 i3, many_lay f1 f2 b4 b5 hall]
  unfold finK
  rw [natI_toNat (fun z hz => (hall z hz).1)]
  rcases x with ⟨op, a, b, c, d, l⟩
  dsimp only at *
  subst hx ha
  simp only [RdR.mk.injEq, true_and, List.length_append]
  push_cast
  omega
/-- Instructions come back. -/
theorem read_lay {n : Nat} {x : Ins} (h24 : n ≤ 24) (hx : x.op = (n : Int)) (hf : fitsP (rowOf n).1 x) (ha : -9223372036854775808 ≤ x.a ∧ x.a ≤ 9223372036854775807) (rest : List UInt8) (pl : Int) : readR (bytesL (rowOf n) x ++ rest) pl = ⟨x, 0, 0, rest, pl + (bytesL (rowOf n) x).length⟩ := by
  have ho : (UInt8.ofNat n).toNat = n := toNat_of (by omega)
  by_cases h1 : n = 1
  · subst h1
    have hl := hf.1.2.2
    rw [bytes_one hx hl]
    simp only [List.cons_append, List.nil_append]
    rw [read_cons, ho, if_neg (by decide)]
    have he : operK (rowOf 1).1 1 (encU (foldZ x.a) ++ rest) (pl + 1) = ⟨x, 0, 0, rest, pl + (1 + (encU (foldZ x.a)).length)⟩ := by
      rw [show (rowOf 1).1 = ⟨true, -1, -1, -1, -1, 0, 0, false⟩ from rfl, op_S, uA_enc (fold_lt ha)]
      simp only [ne_eq, not_true_eq_false, if_false, unfold_fold]
      obtain ⟨_, ⟨g1, g2, g3⟩, _, _⟩ := hf
      rcases x with ⟨op, a, b, c, d, l⟩
      simp only [rowOf, inP] at *
      obtain rfl : l = [] := List.length_eq_zero_iff.1 (by omega)
      obtain rfl : b = 0 := by omega
      obtain rfl : c = 0 := by omega
      obtain rfl : d = 0 := by omega
      subst hx
      simp only [RdR.mk.injEq, true_and]
      omega
    rw [he]
    simp only [ne_eq, not_true_eq_false, if_false]
    rw [if_pos (bP_t hf).symm]
    simp only [List.length_cons]
    congr 1
    push_cast
    omega
  · rw [bytes_tail h24 hx h1 hf.1.2.2, List.cons_append, read_cons, ho, if_neg (by omega), oper_lay h24 hx h1 hf]
    simp only [ne_eq, not_true_eq_false, if_false]
    rw [if_pos (bP_t hf).symm]
    simp only [List.length_cons]
    congr 1
    push_cast
    omega
end Go.Proofs.YtfelcdbhlahehaaDoor

/- Layer 9: the plain law: what is read is laid again; no beginning of an instruction is one. -/
namespace Go.Proofs.YtfelcdbhlahehaaDoor
open Go Go.Sp
/-! ### Beginnings -/
def PP (p t : List UInt8) : Prop := ∃ r, r ≠ [] ∧ t = p ++ r
theorem pp_app {p a b : List UInt8} (h : PP p (a ++ b)) : PP p a ∨ ∃ p', p = a ++ p' ∧ PP p' b := by
  obtain ⟨r, h1, h2⟩ := h
  rcases List.append_eq_append_iff.1 h2 with ⟨c, h3, h4⟩ | ⟨c, h3, h4⟩
  · exact .inr ⟨c, h3, r, h1, h4⟩
  · by_cases hc : c = []
    · subst hc
      exact .inr ⟨[], by simpa using h3.symm, r, h1, by simpa using h4.symm⟩
    · exact .inl ⟨c, hc, h3⟩
theorem grab_pp : ∀ (k n : Nat) (p : List UInt8), PP p (encU n) → (encU n).length ≤ k → grab k p = none := by
  intro k
  induction k with
  | zero => intro n p h hk; exact absurd (List.length_eq_zero_iff.1 (Nat.le_zero.1 hk)) (encU_ne n)
  | succ k ih =>
    intro n p ⟨r, h1, h2⟩ hk
    cases p with
    | nil => rfl
    | cons b p =>
      by_cases hn : n < 128
      · rw [encU_lt hn] at h2
        simp only [List.cons_append, List.cons.injEq] at h2
        have := h2.2.symm
        simp only [List.append_eq_nil_iff] at this
        exact absurd this.2 h1
      · rw [encU_ge hn] at h2 hk
        simp only [List.cons_append, List.cons.injEq] at h2
        simp only [List.length_cons] at hk
        have hb : ¬ b.toNat < 128 := by rw [← h2.1, toNat_of (by omega)]; omega
        simp only [grab, if_neg hb]
        rw [ih (n / 128) p ⟨r, h1, h2.2⟩ (by omega)]
        rfl
abbrev shortR (p : List UInt8) (pl : Int) : RdR := errR 3 (pl + p.length) [] (pl + p.length)
theorem uA_pp {n : Nat} {p : List UInt8} {pl : Int} (h : PP p (encU n)) (hn : n < 18446744073709551616) : uA p pl = ⟨0, 3, pl + p.length, [], pl + p.length⟩ := by
  unfold uA
  rw [grab_pp 10 n p h (enc_len10 hn)]
theorem small_pp {m : Nat} {most : Int} (hm : (m : Int) ≤ most) (hm2 : m < 18446744073709551616) {k : Nat → RK} {b : List UInt8} (hk : ∀ p pl, PP p b → k m p pl = shortR p pl) : ∀ p pl, PP p (encU m ++ b) → smallK most k p pl = shortR p pl := fun p pl h => by
  rcases pp_app h with h' | ⟨p', rfl, h'⟩
  · have hu := uA_pp (pl := pl) h' hm2
    unfold smallK
    have hs : smA p pl most = (0, 3, pl + p.length) := by unfold smA; rw [hu]; rfl
    rw [hs, hu]
    rfl
  · rw [small_lay hm hm2, hk _ _ h']
    unfold shortR
    simp only [List.length_append]
    congr 1 <;> push_cast <;> omega
theorem opt_pp {m n : Int} (h : inP n m) (h1 : -1 ≤ m) (hn : n ≤ 1000) {k : Int → RK} {b : List UInt8} (hk : ∀ p pl, PP p b → k n p pl = shortR p pl) : ∀ p pl, PP p (optL m n ++ b) → optK m k p pl = shortR p pl := fun p pl hp => by
  unfold inP at h
  by_cases hm : m = -1
  · rw [optL_none hm, List.nil_append] at hp
    obtain rfl : n = 0 := by omega
    rw [optK_none hm]
    exact hk p pl hp
  · obtain ⟨z, rfl⟩ := Int.eq_ofNat_of_zero_le h.1
    rw [optL_some hm] at hp
    rw [optK_some hm]
    exact small_pp (by omega) (by omega) hk p pl hp
theorem list_pp {m : Int} (hm : m ≤ 1000) {k : List Nat → RK} : ∀ (l : List Int) (acc : List Nat), (∀ z ∈ l, 0 ≤ z ∧ z ≤ m) → ∀ p pl, PP p (l.flatMap encI) → listK l.length m acc k p pl = shortR p pl := by
  intro l
  induction l with
  | nil =>
    rintro acc _ p pl ⟨r, h1, h2⟩
    have := h2.symm
    simp only [List.flatMap_nil, List.append_eq_nil_iff] at this
    exact absurd this.2 h1
  | cons z l ih =>
    intro acc h p pl hp
    have hz := h z (by simp)
    rw [List.length_cons, listK_succ]
    rw [List.flatMap_cons] at hp
    exact small_pp (m := z.toNat) (by omega) (by omega) (fun p pl hp => ih _ (fun y hy => h y (by simp [hy])) p pl hp) p pl hp
theorem many_pp {r : Row} {l : List Int} (h1 : r.least ≤ l.length) (h2 : l.length ≤ r.most) (h3 : r.l ≤ 1000) (h4 : r.most ≤ 8) (h : ∀ z ∈ l, 0 ≤ z ∧ z ≤ r.l) (k : List Nat → RK) : ∀ p pl, PP p ((if (r.least : Int) < (r.most : Int) then encU l.length else []) ++ l.flatMap encI) → manyK r k p pl = shortR p pl := fun p pl hp => by
  by_cases hlm : (r.least : Int) < (r.most : Int)
  · rw [if_pos hlm] at hp
    rw [manyK_lt hlm]
    exact small_pp (by omega) (by omega) (fun p pl hp => list_pp h3 l [] h p pl hp) p pl hp
  · rw [if_neg hlm, List.nil_append] at hp
    rw [manyK_ge hlm, show r.least = l.length from by omega]
    exact list_pp h3 l [] h p pl hp
/-- No beginning of an instruction is one. -/
theorem read_pp {n : Nat} {x : Ins} (h24 : n ≤ 24) (hx : x.op = (n : Int)) (hf : fitsP (rowOf n).1 x) (ha : -9223372036854775808 ≤ x.a ∧ x.a ≤ 9223372036854775807) (p : List UInt8) (pl : Int) (hp : PP p (bytesL (rowOf n) x)) : readR p pl = shortR p pl := by
  have ho : (UInt8.ofNat n).toNat = n := toNat_of (by omega)
  have hs : ∀ (t : List UInt8) (R : RdR), R = shortR t (pl + 1) → (if R.c ≠ 0 then errR R.c R.a R.bs R.pl else if bP (fitsP (rowOf n).1 R.x) = true then R else errR 2 pl R.bs R.pl) = shortR (UInt8.ofNat n :: t) pl := fun t R hR => by
    subst hR
    unfold shortR
    rw [if_pos (by simp [errR])]
    simp only [errR, List.length_cons]
    congr 1 <;> push_cast <;> omega
  by_cases h1 : n = 1
  · subst h1
    rw [bytes_one hx hf.1.2.2] at hp
    rcases pp_app hp with ⟨r, g1, g2⟩ | ⟨t, rfl, g⟩
    · cases p with
      | nil => rw [read_nil]; simp [shortR]
      | cons b p =>
        simp only [List.cons_append, List.cons.injEq] at g2
        have := g2.2.symm
        simp only [List.append_eq_nil_iff] at this
        exact absurd this.2 g1
    · simp only [List.cons_append, List.nil_append]
      rw [read_cons, ho, if_neg (by decide)]
      refine hs t _ ?_
      rw [show (rowOf 1).1 = ⟨true, -1, -1, -1, -1, 0, 0, false⟩ from rfl, op_S, uA_pp g (fold_lt ha)]
      rfl
  · rw [bytes_tail h24 hx h1 hf.1.2.2, show UInt8.ofNat n :: tailL (rowOf n).1 x = [UInt8.ofNat n] ++ tailL (rowOf n).1 x from rfl] at hp
    rcases pp_app hp with ⟨r, g1, g2⟩ | ⟨t, rfl, g⟩
    · cases p with
      | nil => rw [read_nil]; simp [shortR]
      | cons b p =>
        simp only [List.cons_append, List.cons.injEq] at g2
        have := g2.2.symm
        simp only [List.append_eq_nil_iff] at this
        exact absurd this.2 g1
    · simp only [List.cons_append, List.nil_append]
      rw [read_cons, ho, if_neg (by omega)]
      refine hs t _ ?_
      obtain ⟨⟨f0, f1, f2⟩, ⟨f3, f4, f5⟩, f6, f7⟩ := hf
      obtain ⟨b1, b2, b3, b4⟩ := row_small h24
      obtain ⟨b5, b6⟩ := row_few h24
      obtain ⟨b7, b8, b9⟩ := row_low h24
      unfold operK
      rw [if_neg (by rw [row_whole h24 h1]; decide)]
      unfold tailL at g
      exact opt_pp f3 b7 (in_bound f3 b1).2 (fun p pl h => opt_pp f4 b8 (in_bound f4 b2).2 (fun p pl h => opt_pp f5 b9 (in_bound f5 b3).2 (fun p pl h => many_pp f1 f2 b4 b5 (okL_all f7) _ p pl h) p pl h) p pl h) t (pl + 1) g
end Go.Proofs.YtfelcdbhlahehaaDoor

/- Calls' results weakened; literals of rows as frozen rows. -/
namespace Go.Sp
open Go.RowKit
section
variable {P : Program} {N : Nat} {rd : Option Nat} {E : Env} {D : List Deferred} {L : List HP} {Q : Post}
theorem JO_weak {o : Oper} {next next' : Env → List Deferred → List HP → Prop} (h : JO P N rd o E D L next Q) (hc : ∀ E' D' L', next E' D' L' → ∃ L'', Ent L' L'' ∧ next' E' D' L'') : JO P N rd o E D L next' Q := fun F a w hr hs nx hnx =>
  h F a w hr hs nx (fun _ _ _ _ _ hn hr' hs' => let ⟨_, he, hn'⟩ := hc _ _ _ hn; hnx _ _ _ _ _ hn' hr' (he F _ hs'))
variable {d : Option Nat} {ty : TypeId} {pos : String} {after : Array Edge} {g : Option (Nat × Bool)} {next : Env → List Deferred → List HP → Prop}
theorem ent_own {r e sz n cap : Nat} {cs : List Value} {L : List HP} (h0 : cs.length = n * sz) (h1 : n ≤ cap) (h2 : cap ≤ maxLen) (h3 : cs.length = cap * sz) : Ent (pt r (.cells cs.toArray e (0, 0)) :: L) (OwnS e sz (.slice (some ⟨r, 0, none⟩) n cap) n cs :: L) := fun F w hs => by
  have h4 : Sat w (pt r (.cells (cs ++ []).toArray e (0, 0)) :: F :: L) := by rw [List.append_nil]; exact hs.swap
  exact (Sat.own_block h4 h0 h1 h2 (by simpa using h3)).swap
theorem ent_freeze {e sz n : Nat} {v : Value} {cs : List Value} {L : List HP} : Ent (OwnS e sz v n cs :: L) (Vw sz v n cs :: L) := fun _ _ hs => hs.swap.own_freeze.swap
/-- A literal row of ints, frozen. -/
theorem JO_buildV (l : List Int) {t e : TypeId} [TU P t (.slice e)] {z : Value} {k : Nat} [TI P e z 1 k] {len : Nat} {parts : Array (Nat × Operand)} {xs : List Operand} {vs cs : List Value}
    (hp : inOrder parts.toList 0 = some xs) (hx : evs E xs = some vs) [hc : Cat vs 1 cs] (hl : vs.length = len) (he : cs = ints l) (hlen : len = l.length) (hb : len * 1 ≤ 16777216) (hd : dok N d = true)
    (h : ∀ r, next (put E d (.slice (some ⟨r, 0, none⟩) l.length l.length)) D (Vw 1 (.slice (some ⟨r, 0, none⟩) l.length l.length) l.length (ints l) :: L)) :
    JO P N rd ⟨d, .buildSlice t len parts, ty, pos, after, g⟩ E D L next Q := by
  subst hlen
  refine JO_weak (next := fun E' D' L' => ∃ r, E' = put E d (.slice (some ⟨r, 0, none⟩) l.length l.length) ∧ D' = D ∧ L' = pt r (.cells cs.toArray e (0, 0)) :: L) (JO_buildSlice (n := 1) hp hx hl hb hd (fun r => ⟨r, rfl, rfl, rfl⟩)) ?_
  rintro E' D' L' ⟨r, rfl, rfl, rfl⟩
  refine ⟨_, ?_, h r⟩
  rw [he]
  exact (ent_own (sz := 1) (by simp [ints]) (Nat.le_refl _) (Nat.le_trans (show l.length ≤ 16777216 by omega) (by decide)) (by simp [ints])).trans ent_freeze
end
end Go.Sp

/- Layer 9: is, fails, the chapter's examples. -/
namespace Go.Proofs.YtfelcdbhlahehaaDoor
open Go Go.Sp
/-! ### What fits, decided -/
def okD (un : Bool) (rl : Int) : List Int → List Int → Bool
  | _, [] => true
  | pre, n :: l => (!un || !pre.contains n) && decide (0 ≤ n) && decide (n ≤ rl) && okD un rl (pre ++ [n]) l
theorem okD_iff (un : Bool) (rl : Int) : ∀ (l pre : List Int), okD un rl pre l = true ↔ ∀ i, i < l.length → ∀ n, l[i]? = some n → (un = true → (∀ j, j < i → l[j]? ≠ some n) ∧ n ∉ pre) ∧ 0 ≤ n ∧ n ≤ rl := by
  intro l
  induction l with
  | nil => intro pre; simp [okD]
  | cons m l ih =>
    intro pre
    simp only [okD, Bool.and_eq_true, decide_eq_true_eq, ih]
    constructor
    · rintro ⟨⟨⟨h1, h2⟩, h3⟩, h4⟩ i hi n hn
      cases i with
      | zero =>
        simp only [List.getElem?_cons_zero, Option.some.injEq] at hn
        subst hn
        refine ⟨fun hu => ⟨fun j hj => absurd hj (by omega), ?_⟩, h2, h3⟩
        subst hu
        simpa using h1
      | succ i =>
        simp only [List.getElem?_cons_succ] at hn
        obtain ⟨g1, g2⟩ := h4 i (by simpa using hi) n hn
        refine ⟨fun hu => ⟨fun j hj => ?_, fun hm => (g1 hu).2 (by simp [hm])⟩, g2⟩
        cases j with
        | zero =>
          simp only [List.getElem?_cons_zero, ne_eq, Option.some.injEq]
          intro he
          exact (g1 hu).2 (by simp [he])
        | succ j =>
          simp only [List.getElem?_cons_succ]
          exact (g1 hu).1 j (by omega)
    · intro h
      have h0 := h 0 (by simp) m (by simp)
      refine ⟨⟨⟨?_, h0.2.1⟩, h0.2.2⟩, fun i hi n hn => ?_⟩
      · cases un with
        | false => rfl
        | true => simpa using (h0.1 rfl).2
      · obtain ⟨g1, g2⟩ := h (i + 1) (by simpa using hi) n (by simpa using hn)
        refine ⟨fun hu => ⟨fun j hj => ?_, fun hm => ?_⟩, g2⟩
        · have := (g1 hu).1 (j + 1) (by omega)
          simpa using this
        · rw [List.mem_append, List.mem_singleton] at hm
          rcases hm with hm | hm
          · exact (g1 hu).2 hm
          · subst hm
            exact (g1 hu).1 0 (by omega) (by simp)
def inD (n m : Int) : Bool := decide (0 ≤ n) && decide (n ≤ max m 0)
def fitsD (r : Row) (x : Ins) : Bool := (r.whole || decide (x.a = 0)) && decide (r.least ≤ x.l.length) && decide (x.l.length ≤ r.most) && inD x.b r.b && inD x.c r.c && inD x.d r.d && (!r.unlike || decide (r.c = -1) || !decide (x.b = x.c)) && okD r.unlike r.l [] x.l
theorem fits_iff {r : Row} {x : Ins} : fitsD r x = true ↔ fitsP r x := by
  unfold fitsD fitsP headP pairP inP okL okAt inD
  simp only [Bool.and_eq_true, Bool.or_eq_true, decide_eq_true_eq, okD_iff, Bool.not_eq_true', decide_eq_false_iff_not, List.not_mem_nil, not_false_eq_true, and_true]
  constructor
  · rintro ⟨⟨⟨⟨⟨⟨⟨h1, h2⟩, h3⟩, h4⟩, h5⟩, h6⟩, h7⟩, h8⟩
    exact ⟨⟨h1, h2, h3⟩, ⟨h4, h5, h6⟩, by rcases h7 with (h | h) | h <;> simp [h], h8⟩
  · rintro ⟨⟨h1, h2, h3⟩, ⟨h4, h5, h6⟩, h7, h8⟩
    exact ⟨⟨⟨⟨⟨⟨⟨h1, h2⟩, h3⟩, h4⟩, h5⟩, h6⟩, by rcases h7 with h | h | h <;> simp [h]⟩, h8⟩
theorem fits_t {r : Row} {x : Ins} (h : fitsD r x = true) : fitsP r x := fits_iff.1 h
theorem fits_f {r : Row} {x : Ins} (h : fitsD r x = false) : ¬ fitsP r x := fun hf => by rw [fits_iff.2 hf] at h; cases h
/-- What reading gives, reckoned. -/
def readD (bs : List UInt8) (pl : Int) : RdR := match bs with
  | [] => errR 3 pl [] pl
  | o :: t => if 24 < o.toNat then errR 11 pl t (pl + 1)
    else if (operK (rowOf o.toNat).1 o.toNat t (pl + 1)).c ≠ 0 then errR (operK (rowOf o.toNat).1 o.toNat t (pl + 1)).c (operK (rowOf o.toNat).1 o.toNat t (pl + 1)).a (operK (rowOf o.toNat).1 o.toNat t (pl + 1)).bs (operK (rowOf o.toNat).1 o.toNat t (pl + 1)).pl
    else if fitsD (rowOf o.toNat).1 (operK (rowOf o.toNat).1 o.toNat t (pl + 1)).x = true then operK (rowOf o.toNat).1 o.toNat t (pl + 1)
    else errR 2 pl (operK (rowOf o.toNat).1 o.toNat t (pl + 1)).bs (operK (rowOf o.toNat).1 o.toNat t (pl + 1)).pl
theorem read_D (bs : List UInt8) (pl : Int) : readR bs pl = readD bs pl := by
  have hb : ∀ (r : Row) (x : Ins), bP (fitsP r x) = fitsD r x := fun r x => by
    cases h : fitsD r x with
    | true => exact (bP_t (fits_t h)).symm
    | false => exact (bP_f (fits_f h)).symm
  cases bs with
  | nil => rfl
  | cons o t =>
    rw [read_cons, hb]
    rfl
theorem bytes_len {n : Nat} {x : Ins} (h24 : n ≤ 24) (hx : x.op = (n : Int)) (hf : fitsP (rowOf n).1 x) (ha : -9223372036854775808 ≤ x.a ∧ x.a ≤ 9223372036854775807) : (bytesL (rowOf n) x).length ≤ 131 ∧ 1 ≤ (bytesL (rowOf n) x).length := by
  by_cases h1 : n = 1
  · subst h1
    rw [bytes_one hx hf.1.2.2]
    have := enc_len10 (fold_lt ha)
    simp
    omega
  · rw [bytes_tail h24 hx h1 hf.1.2.2]
    obtain ⟨⟨f0, f1, f2⟩, ⟨f3, f4, f5⟩, f6, f7⟩ := hf
    obtain ⟨b1, b2, b3, b4⟩ := row_small h24
    obtain ⟨b5, b6⟩ := row_few h24
    have o1 := opt_len (m := (rowOf n).1.b) (in_bound f3 b1)
    have o2 := opt_len (m := (rowOf n).1.c) (in_bound f4 b2)
    have o3 := opt_len (m := (rowOf n).1.d) (in_bound f5 b3)
    have o4 := flat_len (okL_mem f7 b4)
    have o5 := enc_len10 (n := x.l.length) (by omega)
    unfold tailL
    simp only [List.length_cons, List.length_append]
    split
    · omega
    · simp only [List.length_nil]; omega
theorem Ct.postS {f : FuncId} {args : Array Value} {L : List HP} {R R' : Ending → List HP → Prop} (h : Ct Tryd.prog f args L R) (hr : ∀ e L', R e L' → ∀ F w, Sat w (F :: L') → ∃ L'', R' e L'' ∧ Sat w (F :: L'')) : Ct Tryd.prog f args L R' := fun F w hs =>
  (h F w hs).mono fun _ w' ⟨hne, _, r, s⟩ => let ⟨L'', r', s'⟩ := hr _ _ r F w' s; ⟨hne, L'', r', s'⟩
theorem sat_er0 {v : Value} {a : Int} {w : World} {L : List HP} (h : Sat w (Er v 0 a :: L)) : v = .nilIface := h.out fun _ hk => hk.elim (fun h => h.2.2) (fun h => absurd rfl h.1)
theorem sat_er1 {v : Value} {c a : Int} {w : World} {L : List HP} (hc : c ≠ 0) (h : Sat w (Er v c a :: L)) : ∃ q, v = faultI q ∧ Sat w (Ft q c a :: L) := by
  obtain ⟨q, h1⟩ := h.outE (α := Nat) (B := fun q k => v = faultI q ∧ Ft q c a k) (fun k hk => hk.elim (fun h => absurd h.1 hc) (fun h => h.2))
  exact ⟨q, h1.out fun _ hk => hk.1, h1.conv fun _ hk => hk.2⟩
theorem read_ok (q : Nat) (bs : List UInt8) (pl : Int) (hpl : 0 ≤ pl ∧ pl + bs.length ≤ 1000000) {x : Ins} {bs' : List UInt8} {pl' : Int} (h : readR bs pl = ⟨x, 0, 0, bs', pl'⟩) :
    Ct Tryd.prog 24 #[ptr q] [RdB q bs pl] (RetE (fun y : Option Addr × Nat => x.l.length ≤ y.2) (fun y => .tuple #[.agg (insC x (.slice y.1 x.l.length y.2)).toArray, .nilIface]) (fun y => [Vw 1 (.slice y.1 x.l.length y.2) x.l.length (ints x.l), RdB q bs' pl'])) :=
  Ct.postS (read_c q bs pl hpl) fun e L' ⟨⟨v, p, cap⟩, hc, he, hL⟩ F w hs => by
    rw [h] at hc he hL
    dsimp only at hc he hL
    rw [hL] at hs
    obtain rfl := sat_er0 hs.rot
    exact ⟨_, ⟨(p, cap), hc, he, rfl⟩, hs.rot.tail.rot.rot⟩
theorem read_bad (q : Nat) (bs : List UInt8) (pl : Int) (hpl : 0 ≤ pl ∧ pl + bs.length ≤ 1000000) {c a : Int} {bs' : List UInt8} {pl' : Int} (h : readR bs pl = errR c a bs' pl') (hc0 : c ≠ 0) :
    Ct Tryd.prog 24 #[ptr q] [RdB q bs pl] (RetE (fun _ : Nat × Option Addr × Nat => True) (fun y => .tuple #[.agg (insC zeroI (.slice y.2.1 0 y.2.2)).toArray, faultI y.1]) (fun y => [Ft y.1 c a, Vw 1 (.slice y.2.1 0 y.2.2) 0 (ints []), RdB q bs' pl'])) :=
  Ct.postS (read_c q bs pl hpl) fun e L' ⟨⟨v, p, cap⟩, hc, he, hL⟩ F w hs => by
    rw [h] at hc he hL
    unfold errR at hc he hL
    dsimp only at hc he hL
    rw [hL] at hs
    obtain ⟨qf, rfl, h1⟩ := sat_er1 hc0 hs.rot
    exact ⟨_, ⟨(qf, p, cap), trivial, he, rfl⟩, h1.rot.rot.rot⟩
theorem wb0 : bytesL (rowOf 0) ⟨0, 0, 0, 0, 0, []⟩ = [0] := by simp [bytesL, rowOf, optL, encI, encU_lt, encU_ge, foldZ]
theorem wf0 : fitsP (rowOf 0).1 ⟨0, 0, 0, 0, 0, []⟩ := fits_t (by decide)
theorem wb1 : bytesL (rowOf 1) ⟨1, (-2), 0, 0, 0, []⟩ = [1, 3] := by simp [bytesL, rowOf, optL, encI, encU_lt, encU_ge, foldZ]
theorem wf1 : fitsP (rowOf 1).1 ⟨1, (-2), 0, 0, 0, []⟩ := fits_t (by decide)
theorem wb2 : bytesL (rowOf 9) ⟨9, 0, 3, 0, 0, []⟩ = [9, 3] := by simp [bytesL, rowOf, optL, encI, encU_lt, encU_ge, foldZ]
theorem wf2 : fitsP (rowOf 9).1 ⟨9, 0, 3, 0, 0, []⟩ := fits_t (by decide)
theorem wb3 : bytesL (rowOf 16) ⟨16, 0, 1, 2, 0, []⟩ = [16, 1, 2] := by simp [bytesL, rowOf, optL, encI, encU_lt, encU_ge, foldZ]
theorem wf3 : fitsP (rowOf 16).1 ⟨16, 0, 1, 2, 0, []⟩ := fits_t (by decide)
theorem wd4 : ([.int .i64 5] : List Value) = ints [5] := rfl
theorem wb4 : bytesL (rowOf 11) ⟨11, 0, 0, 0, 0, [5]⟩ = [11, 5] := by simp [bytesL, rowOf, optL, encI, encU_lt, encU_ge, foldZ]
theorem wf4 : fitsP (rowOf 11).1 ⟨11, 0, 0, 0, 0, [5]⟩ := fits_t (by decide)
theorem wd5 : ([.int .i64 127] : List Value) = ints [127] := rfl
theorem wb5 : bytesL (rowOf 12) ⟨12, 0, 0, 0, 0, [127]⟩ = [12, 127] := by simp [bytesL, rowOf, optL, encI, encU_lt, encU_ge, foldZ]
theorem wf5 : fitsP (rowOf 12).1 ⟨12, 0, 0, 0, 0, [127]⟩ := fits_t (by decide)
theorem wb6 : bytesL (rowOf 18) ⟨18, 0, 1, 7, 0, []⟩ = [18, 1, 7] := by simp [bytesL, rowOf, optL, encI, encU_lt, encU_ge, foldZ]
theorem wf6 : fitsP (rowOf 18).1 ⟨18, 0, 1, 7, 0, []⟩ := fits_t (by decide)
theorem wd7 : ([.int .i64 4, .int .i64 9] : List Value) = ints [4, 9] := rfl
theorem wb7 : bytesL (rowOf 19) ⟨19, 0, 0, 0, 0, [4, 9]⟩ = [19, 0, 2, 4, 9] := by simp [bytesL, rowOf, optL, encI, encU_lt, encU_ge, foldZ]
theorem wf7 : fitsP (rowOf 19).1 ⟨19, 0, 0, 0, 0, [4, 9]⟩ := fits_t (by decide)
theorem wd8 : ([.int .i64 0, .int .i64 1] : List Value) = ints [0, 1] := rfl
theorem wb8 : bytesL (rowOf 20) ⟨20, 0, 2, 0, 300, [0, 1]⟩ = [20, 2, 172, 2, 0, 1] := by simp [bytesL, rowOf, optL, encI, encU_lt, encU_ge, foldZ]
theorem wf8 : fitsP (rowOf 20).1 ⟨20, 0, 2, 0, 300, [0, 1]⟩ := fits_t (by decide)
theorem wd9 : ([.int .i64 0, .int .i64 3] : List Value) = ints [0, 3] := rfl
theorem wb9 : bytesL (rowOf 21) ⟨21, 0, 1, 0, 0, [0, 3]⟩ = [21, 1, 2, 0, 3] := by simp [bytesL, rowOf, optL, encI, encU_lt, encU_ge, foldZ]
theorem wf9 : fitsP (rowOf 21).1 ⟨21, 0, 1, 0, 0, [0, 3]⟩ := fits_t (by decide)
theorem wb10 : bytesL (rowOf 24) ⟨24, 0, 0, 0, 0, []⟩ = [24] := by simp [bytesL, rowOf, optL, encI, encU_lt, encU_ge, foldZ]
theorem wf10 : fitsP (rowOf 24).1 ⟨24, 0, 0, 0, 0, []⟩ := fits_t (by decide)
attribute [local irreducible] callFunc Go.method J JL JO Ct JG JM JW JW1 JQ JQ0 JS CtD LeavesQ ints RdB Er by8 Gl readR bytesL fitsP
set_option maxHeartbeats 4000000 in
theorem isI_c (x : Ins) (p : Option Addr) (cap : Nat) (hc : x.l.length ≤ cap) (hm : x.l.length ≤ 1000) (ha : -9223372036854775808 ≤ x.a ∧ x.a ≤ 9223372036854775807) {n : Nat} (hn : x.op = (n : Int)) (hn24 : n ≤ 24) (hfit : fitsP (rowOf n).1 x) (want : List UInt8) (hw : want = bytesL (rowOf n) x) :
    Ct Tryd.prog 35 #[.agg (insC x (.slice p x.l.length cap)).toArray, str want] [Vw 1 (.slice p x.l.length cap) x.l.length (ints x.l)] (RetV (.bool true) []) := by
  have hb := bytes_ok x p cap hc hm ha hn hn24 hfit
  have hl := (bytes_len hn24 hn hfit ha).1
  have hr0 := read_lay hn24 hn hfit ha [] 0
  rw [List.append_nil] at hr0
  rw [← hw] at hb hl hr0
  have hr := fun q => read_ok q want 0 (by omega) hr0
  refine fn_ret (vs := [_, _]) Tryd.func35 rfl Tryd.ntmps35 (by simp) ?_
  repeat (first | (first | refine J_region ?_ | refine JL_nil ?_ | refine J_seq ?_ | refine J_skip ?_ | refine J_condF rfl ?_) | (first | ((first | refine JL_step rfl ?_); first | refine JO_callE rfl (newreader_B want (Nat.le_trans hl (by decide))) rfl (fun q _ => ?_) | refine JO_q (by simp) (JQ_eqP rfl) rfl ?_ | refine JO_callE rfl (hr q) rfl (fun y hy => ?_) | refine JO_storeW rfl rfl (by rfl) (by rfl) (ins_one rfl) rfl ?_ | refine JO_move rfl rfl ?_ | refine JO_assign rfl rfl ?_ | refine JO_loadW rfl (by rfl) rfl ?_ | refine JO_extract rfl rfl rfl ?_ | refine JO_boxA rfl rfl (fun r => ?_) | refine JO_allocA rfl (fun r => ?_))))
  have hs := lsame_c x p y.1 cap y.2 (by omega)
  have he := end_okB q (0 + (want.length : Int))
  repeat (first | (first | refine JL_nil ?_ | refine J_ret ?_) | (first | ((first | refine JL_step rfl ?_ | refine JL_take rfl rfl ?_); first | refine JO_q (by simp) (JQ_eqS0 rfl rfl) rfl ?_ | refine JO_q (by simp) (JQ_eqI0 rfl) rfl ?_ | refine JO_move rfl rfl ?_ | refine JO_assign rfl rfl ?_ | refine JO_loadW rfl (by rfl) rfl ?_ | refine JO_pickT rfl rfl rfl ?_ | refine JO_callVP rfl (hb) rfl ?_ | refine JO_callVP rfl (hs) rfl ?_ | refine JO_callV' rfl (he) rfl ?_)))
  exact ret_oneV rfl rfl .nil
set_option maxHeartbeats 4000000 in
theorem fails9_c (s : List UInt8) (hs : s.length ≤ 100000) (c a : Int) (bs' : List UInt8) (pl' : Int) (h : readR s 0 = errR c a bs' pl') (hc : c ≠ 0) (te : TypeId) (fz : Nat × Nat) :
    Ct Tryd.prog 34 #[str s, .int .i64 c, .int .i64 a] [Gl te fz] (RetV (.bool true) [Gl te fz]) := by
  have hr := fun q => read_bad q s 0 (by omega) h hc
  refine fn_ret (vs := [_, _, _]) Tryd.func34 rfl Tryd.ntmps34 (by simp) ?_
  repeat (first | (first | refine J_region ?_ | refine JL_nil ?_ | refine J_seq ?_ | refine J_skip ?_ | refine J_condF rfl ?_) | (first | ((first | refine JL_step rfl ?_); first | refine JO_callE rfl (newreader_B s (Nat.le_trans hs (by decide))) rfl (fun q _ => ?_) | refine JO_q (by simp) (JQ_eqP rfl) rfl ?_ | refine JO_callE rfl (hr q) rfl (fun y hy => ?_) | refine JO_storeW rfl rfl (by rfl) (by rfl) (ins_one rfl) rfl ?_ | refine JO_move rfl rfl ?_ | refine JO_assign rfl rfl ?_ | refine JO_extract rfl rfl rfl ?_ | refine JO_allocA rfl (fun r => ?_))))
  have ht := told9_faultK y.1 c a hc te fz
  have hsm : Ct Tryd.prog 42 #[.agg (insC zeroI (.slice y.2.1 0 y.2.2)).toArray, .agg (insC zeroI (.slice none 0 0)).toArray] [Vw 1 (.slice y.2.1 0 y.2.2) 0 (ints []), Vw 1 (.slice none 0 0) 0 (ints [])] (RetV (.bool true) []) := lsame_c zeroI y.2.1 none y.2.2 0 (by decide)
  refine JL_heap vw0 ?_
  repeat (first | (first | refine JL_nil ?_ | refine J_ret ?_) | (first | ((first | refine JL_step rfl ?_ | refine JL_take rfl rfl ?_); first | refine JO_build (cs := [.int .i64 c, .int .i64 a]) rfl rfl rfl ?_ | refine JO_build (cs := insC zeroI (.slice none 0 0)) rfl rfl rfl ?_ | refine JO_move rfl rfl ?_ | refine JO_assign rfl rfl ?_ | refine JO_loadW rfl (by rfl) rfl ?_ | refine JO_pickT rfl rfl rfl ?_ | refine JO_callV' rfl (ht) rfl ?_ | refine JO_callVP rfl (hsm) rfl ?_)))
  exact ret_oneV rfl rfl Ent.sel
set_option maxRecDepth 8000 in
set_option maxHeartbeats 8000000 in
theorem works9_c (te : TypeId) (fz : Nat × Nat) : Ct Tryd.prog 30 #[] [Gl te fz] (RetV (.bool true) [Gl te fz]) := by
  have s0 : Ct Tryd.prog 35 #[.agg (insC ⟨0, 0, 0, 0, 0, []⟩ (.slice none 0 0)).toArray, str [0]] [Vw 1 (.slice none 0 0) 0 (ints [])] (RetV (.bool true) []) := isI_c ⟨0, 0, 0, 0, 0, []⟩ none 0 (by decide) (by decide) (by decide) (n := 0) rfl (by decide) wf0 _ wb0.symm
  have s1 : Ct Tryd.prog 35 #[.agg (insC ⟨1, (-2), 0, 0, 0, []⟩ (.slice none 0 0)).toArray, str [1, 3]] [Vw 1 (.slice none 0 0) 0 (ints [])] (RetV (.bool true) []) := isI_c ⟨1, (-2), 0, 0, 0, []⟩ none 0 (by decide) (by decide) (by decide) (n := 1) rfl (by decide) wf1 _ wb1.symm
  have s2 : Ct Tryd.prog 35 #[.agg (insC ⟨9, 0, 3, 0, 0, []⟩ (.slice none 0 0)).toArray, str [9, 3]] [Vw 1 (.slice none 0 0) 0 (ints [])] (RetV (.bool true) []) := isI_c ⟨9, 0, 3, 0, 0, []⟩ none 0 (by decide) (by decide) (by decide) (n := 9) rfl (by decide) wf2 _ wb2.symm
  have s3 : Ct Tryd.prog 35 #[.agg (insC ⟨16, 0, 1, 2, 0, []⟩ (.slice none 0 0)).toArray, str [16, 1, 2]] [Vw 1 (.slice none 0 0) 0 (ints [])] (RetV (.bool true) []) := isI_c ⟨16, 0, 1, 2, 0, []⟩ none 0 (by decide) (by decide) (by decide) (n := 16) rfl (by decide) wf3 _ wb3.symm
  have s4 : ∀ r : Nat, Ct Tryd.prog 35 #[.agg (insC ⟨11, 0, 0, 0, 0, [5]⟩ (.slice (some ⟨r, 0, none⟩) 1 1)).toArray, str [11, 5]] [Vw 1 (.slice (some ⟨r, 0, none⟩) 1 1) 1 (ints [5])] (RetV (.bool true) []) := fun r => isI_c ⟨11, 0, 0, 0, 0, [5]⟩ _ 1 (by decide) (by decide) (by decide) (n := 11) rfl (by decide) wf4 _ wb4.symm
  have s5 : ∀ r : Nat, Ct Tryd.prog 35 #[.agg (insC ⟨12, 0, 0, 0, 0, [127]⟩ (.slice (some ⟨r, 0, none⟩) 1 1)).toArray, str [12, 127]] [Vw 1 (.slice (some ⟨r, 0, none⟩) 1 1) 1 (ints [127])] (RetV (.bool true) []) := fun r => isI_c ⟨12, 0, 0, 0, 0, [127]⟩ _ 1 (by decide) (by decide) (by decide) (n := 12) rfl (by decide) wf5 _ wb5.symm
  have s6 : Ct Tryd.prog 35 #[.agg (insC ⟨18, 0, 1, 7, 0, []⟩ (.slice none 0 0)).toArray, str [18, 1, 7]] [Vw 1 (.slice none 0 0) 0 (ints [])] (RetV (.bool true) []) := isI_c ⟨18, 0, 1, 7, 0, []⟩ none 0 (by decide) (by decide) (by decide) (n := 18) rfl (by decide) wf6 _ wb6.symm
  have s7 : ∀ r : Nat, Ct Tryd.prog 35 #[.agg (insC ⟨19, 0, 0, 0, 0, [4, 9]⟩ (.slice (some ⟨r, 0, none⟩) 2 2)).toArray, str [19, 0, 2, 4, 9]] [Vw 1 (.slice (some ⟨r, 0, none⟩) 2 2) 2 (ints [4, 9])] (RetV (.bool true) []) := fun r => isI_c ⟨19, 0, 0, 0, 0, [4, 9]⟩ _ 2 (by decide) (by decide) (by decide) (n := 19) rfl (by decide) wf7 _ wb7.symm
  have s8 : ∀ r : Nat, Ct Tryd.prog 35 #[.agg (insC ⟨20, 0, 2, 0, 300, [0, 1]⟩ (.slice (some ⟨r, 0, none⟩) 2 2)).toArray, str [20, 2, 172, 2, 0, 1]] [Vw 1 (.slice (some ⟨r, 0, none⟩) 2 2) 2 (ints [0, 1])] (RetV (.bool true) []) := fun r => isI_c ⟨20, 0, 2, 0, 300, [0, 1]⟩ _ 2 (by decide) (by decide) (by decide) (n := 20) rfl (by decide) wf8 _ wb8.symm
  have s9 : ∀ r : Nat, Ct Tryd.prog 35 #[.agg (insC ⟨21, 0, 1, 0, 0, [0, 3]⟩ (.slice (some ⟨r, 0, none⟩) 2 2)).toArray, str [21, 1, 2, 0, 3]] [Vw 1 (.slice (some ⟨r, 0, none⟩) 2 2) 2 (ints [0, 3])] (RetV (.bool true) []) := fun r => isI_c ⟨21, 0, 1, 0, 0, [0, 3]⟩ _ 2 (by decide) (by decide) (by decide) (n := 21) rfl (by decide) wf9 _ wb9.symm
  have s10 : Ct Tryd.prog 35 #[.agg (insC ⟨24, 0, 0, 0, 0, []⟩ (.slice none 0 0)).toArray, str [24]] [Vw 1 (.slice none 0 0) 0 (ints [])] (RetV (.bool true) []) := isI_c ⟨24, 0, 0, 0, 0, []⟩ none 0 (by decide) (by decide) (by decide) (n := 24) rfl (by decide) wf10 _ wb10.symm
  have f0 := fails9_c [] (by decide) 3 0 _ _ ((read_D _ _).trans rfl) (by decide) te fz
  have f1 := fails9_c [25] (by decide) 11 0 _ _ ((read_D _ _).trans rfl) (by decide) te fz
  have f2 := fails9_c [16, 1, 1] (by decide) 2 0 _ _ ((read_D _ _).trans rfl) (by decide) te fz
  have f3 := fails9_c [19, 0, 0] (by decide) 2 0 _ _ ((read_D _ _).trans rfl) (by decide) te fz
  have f4 := fails9_c [9, 16] (by decide) 4 1 _ _ ((read_D _ _).trans rfl) (by decide) te fz
  have f5 := fails9_c [19, 0, 9] (by decide) 4 2 _ _ ((read_D _ _).trans rfl) (by decide) te fz
  have f6 := fails9_c [11, 128, 1] (by decide) 4 1 _ _ ((read_D _ _).trans rfl) (by decide) te fz
  refine fn_ret (vs := []) Tryd.func30 rfl Tryd.ntmps30 (by simp) ?_
  refine J_heap vw0 ?_
  repeat (first | (first | refine J_region ?_ | refine JL_nil ?_ | refine J_seq ?_ | refine J_ret ?_) | (first | ((first | refine JL_step rfl ?_ | refine JL_take rfl rfl ?_); first | refine JO_build (cs := insC ⟨0, 0, 0, 0, 0, []⟩ (.slice none 0 0)) rfl rfl rfl ?_ | refine JO_build (cs := insC ⟨1, (-2), 0, 0, 0, []⟩ (.slice none 0 0)) rfl rfl rfl ?_ | refine JO_build (cs := insC ⟨9, 0, 3, 0, 0, []⟩ (.slice none 0 0)) rfl rfl rfl ?_ | refine JO_build (cs := insC ⟨16, 0, 1, 2, 0, []⟩ (.slice none 0 0)) rfl rfl rfl ?_ | refine JO_buildV [5] rfl rfl rfl wd4 rfl (by decide) rfl (fun r => ?_) | refine JO_build (cs := insC ⟨11, 0, 0, 0, 0, [5]⟩ (.slice (some ⟨_, 0, none⟩) 1 1)) rfl rfl rfl ?_ | refine JO_buildV [127] rfl rfl rfl wd5 rfl (by decide) rfl (fun r => ?_) | refine JO_build (cs := insC ⟨12, 0, 0, 0, 0, [127]⟩ (.slice (some ⟨_, 0, none⟩) 1 1)) rfl rfl rfl ?_ | refine JO_build (cs := insC ⟨18, 0, 1, 7, 0, []⟩ (.slice none 0 0)) rfl rfl rfl ?_ | refine JO_buildV [4, 9] rfl rfl rfl wd7 rfl (by decide) rfl (fun r => ?_) | refine JO_build (cs := insC ⟨19, 0, 0, 0, 0, [4, 9]⟩ (.slice (some ⟨_, 0, none⟩) 2 2)) rfl rfl rfl ?_ | refine JO_buildV [0, 1] rfl rfl rfl wd8 rfl (by decide) rfl (fun r => ?_) | refine JO_build (cs := insC ⟨20, 0, 2, 0, 300, [0, 1]⟩ (.slice (some ⟨_, 0, none⟩) 2 2)) rfl rfl rfl ?_ | refine JO_buildV [0, 3] rfl rfl rfl wd9 rfl (by decide) rfl (fun r => ?_) | refine JO_build (cs := insC ⟨21, 0, 1, 0, 0, [0, 3]⟩ (.slice (some ⟨_, 0, none⟩) 2 2)) rfl rfl rfl ?_ | refine JO_build (cs := insC ⟨24, 0, 0, 0, 0, []⟩ (.slice none 0 0)) rfl rfl rfl ?_ | refine JO_move rfl rfl ?_ | refine JO_assign rfl rfl ?_ | refine JO_pickT rfl rfl rfl ?_ | refine JO_callVP rfl (s0) rfl ?_ | refine JO_callVP rfl (s1) rfl ?_ | refine JO_callVP rfl (s2) rfl ?_ | refine JO_callVP rfl (s3) rfl ?_ | refine JO_callVP rfl (s4 _) rfl ?_ | refine JO_callVP rfl (s5 _) rfl ?_ | refine JO_callVP rfl (s6) rfl ?_ | refine JO_callVP rfl (s7 _) rfl ?_ | refine JO_callVP rfl (s8 _) rfl ?_ | refine JO_callVP rfl (s9 _) rfl ?_ | refine JO_callVP rfl (s10) rfl ?_ | refine JO_callVP rfl (f0) rfl ?_ | refine JO_callVP rfl (f1) rfl ?_ | refine JO_callVP rfl (f2) rfl ?_ | refine JO_callVP rfl (f3) rfl ?_ | refine JO_callVP rfl (f4) rfl ?_ | refine JO_callVP rfl (f5) rfl ?_ | refine JO_callVP rfl (f6) rfl ?_)))
  exact ret_oneV rfl rfl Ent.sel
end Go.Proofs.YtfelcdbhlahehaaDoor

/- Layer 9: InsnReads' walk. -/
namespace Go.Proofs.YtfelcdbhlahehaaDoor
open Go Go.Sp
attribute [local irreducible] callFunc Go.method J JL JO Ct JG JM JW JW1 JQ JQ0 JS CtD LeavesQ ints RdB Er by8 Gl readR
end Go.Proofs.YtfelcdbhlahehaaDoor

/- The library, 48: equal bools. -/
namespace Go.Sp
open Go
section
variable {P : Program} {N : Nat} {E : Env} {D : List Deferred} {L L0 : List HP} {Q : Post} {m : Nat}
variable {d : Option Nat} {ty : TypeId} {pos : String} {after : Array Edge} {g : Option (Nat × Bool)}
end
end Go.Sp

/- Layer 9: InsnCuts' walk, InsnPuts' walk. -/
namespace Go.Proofs.YtfelcdbhlahehaaDoor
open Go Go.Sp
theorem chk_cases (x : Ins) : chkA x ≠ 0 ∨ ∃ n : Nat, n ≤ 24 ∧ x.op = (n : Int) ∧ fitsP (rowOf n).1 x ∧ chkA x = 0 := by
  by_cases h : x.op < 0 ∨ 24 < x.op
  · left; rw [chk_out h]; decide
  · obtain ⟨n, hn⟩ := Int.eq_ofNat_of_zero_le (show 0 ≤ x.op by omega)
    by_cases hf : fitsP (rowOf n).1 x
    · right; exact ⟨n, by omega, hn, hf, chk_ok hn (by omega) hf⟩
    · left; rw [chk_bad hn (by omega) hf]; decide
theorem few_len (x : Ins) : (fewI x).l.length ≤ x.l.length ∧ (fewI x).l.length ≤ 12 := by simp [fewI]; omega
theorem few_a (x : Ins) : (fewI x).a = x.a := rfl
attribute [local irreducible] callFunc Go.method J JL JO Ct JG JM JW JW1 JQ JQ0 JS CtD LeavesQ ints RdB WrB Er by8 Gl bytesL fitsP chkA fewI
set_option maxHeartbeats 8000000 in
theorem insnCuts_c (x : Ins) (p : Option Addr) (cap : Nat) (hc : x.l.length ≤ cap) (ha : -9223372036854775808 ≤ x.a ∧ x.a ≤ 9223372036854775807) (k : Nat) (hk : k < 256) (te : TypeId) (fz : Nat × Nat) :
    Ct Tryd.prog 9 #[.agg (insC x (.slice p x.l.length cap)).toArray, .int .u8 (k : Int)] [Vw 1 (.slice p x.l.length cap) x.l.length (ints x.l), Gl te fz] (RetV (.bool true) []) := by
  have hfw := few_c x p cap hc
  obtain ⟨l1, l2⟩ := few_len x
  rw [← few_a x] at ha
  generalize fewI x = y at *
  have hcy : y.l.length ≤ cap := by omega
  have hw := works9_c te fz
  have hck := check_c y p cap hcy (by omega)
  refine fn_ret (vs := [_, _]) Tryd.func9 rfl Tryd.ntmps9 (by simp) ?_
  rcases chk_cases y with h0 | ⟨n, hn24, hn, hfit, h0⟩
  · have hb := bytes_bad y p cap hcy (by omega) h0
    repeat (first | (first | refine J_region ?_ | refine JL_nil ?_ | refine J_seq ?_ | refine J_skip ?_ | refine J_condT rfl ?_ | refine J_condF rfl ?_ | refine J_ret ?_) | (first | ((first | refine JL_step rfl ?_); first | refine JO_q (by simp) (JQ_eqS0 rfl rfl) rfl ?_ | refine JO_q (by simp) (JQ_neT rfl rfl (by omega)) rfl ?_ | refine JO_move rfl rfl ?_ | refine JO_assign rfl rfl ?_ | refine JO_loadW rfl (by rfl) rfl ?_ | refine JO_not rfl rfl ?_ | refine JO_boxA rfl rfl (fun r => ?_) | refine JO_callVP rfl (hw) rfl ?_ | refine JO_callVP rfl (hfw) rfl ?_ | refine JO_callVP rfl (hb) rfl ?_ | refine JO_callVP rfl (hck) rfl ?_)))
    exact ret_oneV rfl rfl Ent.sel
  · have hb := bytes_ok y p cap hcy (by omega) ha hn hn24 hfit
    obtain ⟨b1, b2⟩ := bytes_len hn24 hn hfit ha
    have hpp := fun q r => read_pp hn24 hn hfit ha q 0 r
    have hne : bytesL (rowOf n) y ≠ [] := by intro h; rw [h] at b2; simp at b2
    generalize bytesL (rowOf n) y = m at *
    have hkm : k % m.length < m.length := Nat.mod_lt _ (by omega)
    have hkl : (m.take (k % m.length)).length = k % m.length := by rw [List.length_take]; omega
    have hf := fails9_c (m.take (k % m.length)) (by omega) 3 (k % m.length : Nat) _ _ (by
      rw [hpp _ ⟨m.drop (k % m.length), by
        intro h
        have := congrArg List.length h
        rw [List.length_drop, List.length_nil] at this
        omega, (List.take_append_drop _ _).symm⟩, shortR, hkl, Int.zero_add]) (by decide) te fz
    repeat (first | (first | refine J_region ?_ | refine JL_nil ?_ | refine J_seq ?_ | refine J_skip ?_ | refine J_condF rfl ?_ | refine J_ret ?_) | (first | ((first | refine JL_step rfl ?_); first | refine JO_q (by simp) (JQ_lenB rfl) rfl ?_ | refine JO_q (by simp) (JQ_eqS1 (a := m) (b := []) rfl rfl hne) rfl ?_ | refine JO_q (by simp) (JQ_convF (a := k) rfl (wrap_i64n (by omega))) rfl ?_ | refine JO_q (by simp) (JQ_remF (a := k) (b := m.length) rfl rfl (by omega)) rfl ?_ | refine JO_q (by simp) (JQ_headS (bs := m) (h := k % m.length) rfl rfl (by omega)) rfl ?_ | refine JO_move rfl rfl ?_ | refine JO_assign rfl rfl ?_ | refine JO_loadW rfl (by rfl) rfl ?_ | refine JO_not rfl rfl ?_ | refine JO_boxA rfl rfl (fun r => ?_) | refine JO_callVP rfl (hw) rfl ?_ | refine JO_callVP rfl (hfw) rfl ?_ | refine JO_callVP rfl (hb) rfl ?_ | refine JO_callVP rfl (hf) rfl ?_)))
    exact ret_oneV rfl rfl Ent.sel
end Go.Proofs.YtfelcdbhlahehaaDoor
