/- Layer 3: the plain law of sections. -/
import Derived.Test.YtfelcdbhlahehaaDoorM4
import Derived.Test.YtfelcdbhlahehaaDoorM8
import Derived.Test.YtfelcdbhlahehaaDoorM11
import Derived.Test.YtfelcdbhlahehaaDoorM10
import Derived.Test.YtfelcdbhlahehaaDoorM12
namespace Go.Proofs.YtfelcdbhlahehaaDoor
open Go Go.Sp
end Go.Proofs.YtfelcdbhlahehaaDoor

/- Layer 9: the plain law: instructions come back from their bytes. -/
namespace Go.Proofs.YtfelcdbhlahehaaDoor
open Go Go.Sp
theorem sm_lay {m : Nat} {most : Int} (h : (m : Int) ≤ most) (hm : m < 18446744073709551616) (r : List UInt8) (pl : Int) : smA (encU m ++ r) pl most = (m, 0, 0) ∧ (uA (encU m ++ r) pl).rest = r ∧ (uA (encU m ++ r) pl).pl = pl + (encU m).length := by
  have hu := uA_enc hm r pl
  refine ⟨?_, by rw [hu], by rw [hu]⟩
  unfold smA
  rw [hu]
  simp only [ne_eq, not_true_eq_false, if_false]
  rw [if_neg (by omega)]
theorem small_lay {m : Nat} {most : Int} (h : (m : Int) ≤ most) (hm : m < 18446744073709551616) (k : Nat → RK) (r : List UInt8) (pl : Int) : smallK most k (encU m ++ r) pl = k m r (pl + (encU m).length) := by
  obtain ⟨h1, h2, h3⟩ := sm_lay h hm r pl
  unfold smallK
  rw [h1, h2, h3]
  rfl
theorem opt_lay {m n : Int} (h : inP n m) (h1 : -1 ≤ m) (hn : n ≤ 1000) (k : Int → RK) (r : List UInt8) (pl : Int) : optK m k (optL m n ++ r) pl = k n r (pl + (optL m n).length) := by
  unfold inP at h
  by_cases hm : m = -1
  · rw [optK_none hm, optL_none hm]
    obtain rfl : n = 0 := by omega
    simp
  · obtain ⟨z, rfl⟩ := Int.eq_ofNat_of_zero_le h.1
    rw [optK_some hm, optL_some hm, small_lay (by omega) (by omega)]
theorem list_lay {m : Int} (hm : m ≤ 1000) (k : List Nat → RK) : ∀ (l : List Int) (acc : List Nat) (r : List UInt8) (pl : Int), (∀ z ∈ l, 0 ≤ z ∧ z ≤ m) → listK l.length m acc k (l.flatMap encI ++ r) pl = k (acc ++ l.map Int.toNat) r (pl + (l.flatMap encI).length) := by
  intro l
  induction l with
  | nil => intro acc r pl _; simp [listK]
  | cons z l ih =>
    intro acc r pl h
    have hz := h z (by simp)
    rw [List.length_cons, listK_succ, List.flatMap_cons, List.append_assoc, show encI z = encU z.toNat from rfl, small_lay (by omega) (by omega), ih _ _ _ (fun y hy => h y (by simp [hy]))]
    simp only [List.map_cons, List.append_assoc, List.singleton_append, List.length_append]
    congr 1
    push_cast
    omega
theorem natI_toNat {l : List Int} (h : ∀ z ∈ l, 0 ≤ z) : natI (l.map Int.toNat) = l := by
  induction l with
  | nil => rfl
  | cons z l ih =>
    have h1 := ih (fun y hy => h y (by simp [hy]))
    have h2 := h z (by simp)
    unfold natI at h1 ⊢
    simp only [List.map_cons, List.cons.injEq]
    exact ⟨by omega, h1⟩
theorem row_low {n : Nat} (h : n ≤ 24) : -1 ≤ (rowOf n).1.b ∧ -1 ≤ (rowOf n).1.c ∧ -1 ≤ (rowOf n).1.d := by
  match n, h with
  | 0, _ | 1, _ | 2, _ | 3, _ | 4, _ | 5, _ | 6, _ | 7, _ | 8, _ | 9, _ | 10, _ | 11, _ | 12, _ | 13, _ | 14, _ | 15, _ | 16, _ | 17, _ | 18, _ | 19, _ | 20, _ | 21, _ | 22, _ | 23, _ | 24, _ => exact ⟨by decide, by decide, by decide⟩
  | k + 25, h => omega
/-- The text behind the op. -/
def tailL (r : Row) (x : Ins) : List UInt8 := optL r.b x.b ++ (optL r.c x.c ++ (optL r.d x.d ++ ((if (r.least : Int) < (r.most : Int) then encU x.l.length else []) ++ x.l.flatMap encI)))
theorem bytes_tail {n : Nat} {x : Ins} (h : n ≤ 24) (hx : x.op = (n : Int)) (h1 : n ≠ 1) (hl : x.l.length ≤ (rowOf n).1.most) : bytesL (rowOf n) x = UInt8.ofNat n :: tailL (rowOf n).1 x := by
  rw [bytes_of h hx h1 hl]
  simp [tailL]
theorem okL_all {un : Bool} {rl : Int} {l : List Int} (h : okL un rl l) : ∀ z ∈ l, 0 ≤ z ∧ z ≤ rl := fun z hz => by
  obtain ⟨i, hi, rfl⟩ := List.mem_iff_getElem.1 hz
  exact (h i hi _ (List.getElem?_eq_getElem hi)).2
theorem many_lay {r : Row} {l : List Int} (h1 : r.least ≤ l.length) (h2 : l.length ≤ r.most) (h3 : r.l ≤ 1000) (h4 : r.most ≤ 8) (h : ∀ z ∈ l, 0 ≤ z ∧ z ≤ r.l) (k : List Nat → RK) (rest : List UInt8) (pl : Int) :
    manyK r k ((if (r.least : Int) < (r.most : Int) then encU l.length else []) ++ (l.flatMap encI ++ rest)) pl = k (l.map Int.toNat) rest (pl + ((if (r.least : Int) < (r.most : Int) then encU l.length else []) ++ l.flatMap encI).length) := by
  by_cases hlm : (r.least : Int) < (r.most : Int)
  · rw [manyK_lt hlm, if_pos hlm, small_lay (by omega) (by omega), list_lay h3 _ _ _ _ _ h]
    simp only [List.nil_append, List.length_append]
    congr 1
    push_cast
    omega
  · rw [manyK_ge hlm, if_neg hlm, show r.least = l.length from by omega, List.nil_append, list_lay h3 _ _ _ _ _ h]
    simp
theorem oper_lay {n : Nat} {x : Ins} (h24 : n ≤ 24) (hx : x.op = (n : Int)) (h1 : n ≠ 1) (hf : fitsP (rowOf n).1 x) (rest : List UInt8) (pl : Int) : operK (rowOf n).1 n (tailL (rowOf n).1 x ++ rest) pl = ⟨x, 0, 0, rest, pl + (tailL (rowOf n).1 x).length⟩ := by
  obtain ⟨⟨f0, f1, f2⟩, ⟨f3, f4, f5⟩, f6, f7⟩ := hf
  obtain ⟨b1, b2, b3, b4⟩ := row_small h24
  obtain ⟨b5, b6⟩ := row_few h24
  obtain ⟨b7, b8, b9⟩ := row_low h24
  have hall := okL_all f7
  have ha : x.a = 0 := f0.resolve_left (by rw [row_whole h24 h1]; decide)
  unfold operK
  rw [if_neg (by rw [row_whole h24 h1]; decide)]
  unfold tailL
  simp only [List.append_assoc]
  have i1 := (in_bound f3 b1).2
  have i2 := (in_bound f4 b2).2
  have i3 := (in_bound f5 b3).2
  rw [opt_lay f3 b7 i1, opt_lay f4 b8 i2, opt_lay f5 b9 i3, many_lay f1 f2 b4 b5 hall]
  unfold finK
  rw [natI_toNat (fun z hz => (hall z hz).1)]
  rcases x with ⟨op, a, b, c, d, l⟩
  dsimp only at *
  subst hx ha
  simp only [RdR.mk.injEq, true_and, List.length_append]
  push_cast
  omega
/-- Instructions come back. -/
theorem read_lay {n : Nat} {x : Ins} (h24 : n ≤ 24) (hx : x.op = (n : Int)) (hf : fitsP (rowOf n).1 x) (ha : -9223372036854775808 ≤ x.a ∧ x.a ≤ 9223372036854775807) (rest : List UInt8) (pl : Int) : readR (bytesL (rowOf n) x ++ rest) pl = ⟨x, 0, 0, rest, pl + (bytesL (rowOf n) x).length⟩ := by
  have ho : (UInt8.ofNat n).toNat = n := toNat_of (by omega)
  by_cases h1 : n = 1
  · subst h1
    have hl := hf.1.2.2
    rw [bytes_one hx hl]
    simp only [List.cons_append, List.nil_append]
    rw [read_cons, ho, if_neg (by decide)]
    have he : operK (rowOf 1).1 1 (encU (foldZ x.a) ++ rest) (pl + 1) = ⟨x, 0, 0, rest, pl + (1 + (encU (foldZ x.a)).length)⟩ := by
      rw [show (rowOf 1).1 = ⟨true, -1, -1, -1, -1, 0, 0, false⟩ from rfl, op_S, uA_enc (fold_lt ha)]
      simp only [ne_eq, not_true_eq_false, if_false, unfold_fold]
      obtain ⟨_, ⟨g1, g2, g3⟩, _, _⟩ := hf
      rcases x with ⟨op, a, b, c, d, l⟩
      simp only [rowOf, inP] at *
      obtain rfl : l = [] := List.length_eq_zero_iff.1 (by omega)
      obtain rfl : b = 0 := by omega
      obtain rfl : c = 0 := by omega
      obtain rfl : d = 0 := by omega
      subst hx
      simp only [RdR.mk.injEq, true_and]
      omega
    rw [he]
    simp only [ne_eq, not_true_eq_false, if_false]
    rw [if_pos (bP_t hf).symm]
    simp only [List.length_cons]
    congr 1
    push_cast
    omega
  · rw [bytes_tail h24 hx h1 hf.1.2.2, List.cons_append, read_cons, ho, if_neg (by omega), oper_lay h24 hx h1 hf]
    simp only [ne_eq, not_true_eq_false, if_false]
    rw [if_pos (bP_t hf).symm]
    simp only [List.length_cons]
    congr 1
    push_cast
    omega
end Go.Proofs.YtfelcdbhlahehaaDoor

/- Layer 9: the plain law: what is read is laid again; no beginning of an instruction is one. -/
namespace Go.Proofs.YtfelcdbhlahehaaDoor
open Go Go.Sp
/-! ### Beginnings -/
def PP (p t : List UInt8) : Prop := ∃ r, r ≠ [] ∧ t = p ++ r
end Go.Proofs.YtfelcdbhlahehaaDoor

/- Calls' results weakened; literals of rows as frozen rows. -/
namespace Go.Sp
open Go.RowKit
section
variable {P : Program} {N : Nat} {rd : Option Nat} {E : Env} {D : List Deferred} {L : List HP} {Q : Post}
theorem JO_weak {o : Oper} {next next' : Env → List Deferred → List HP → Prop} (h : JO P N rd o E D L next Q) (hc : ∀ E' D' L', next E' D' L' → ∃ L'', Ent L' L'' ∧ next' E' D' L'') : JO P N rd o E D L next' Q := fun F a w hr hs nx hnx =>
  h F a w hr hs nx (fun _ _ _ _ _ hn hr' hs' => let ⟨_, he, hn'⟩ := hc _ _ _ hn; hnx _ _ _ _ _ hn' hr' (he F _ hs'))
variable {d : Option Nat} {ty : TypeId} {pos : String} {after : Array Edge} {g : Option (Nat × Bool)} {next : Env → List Deferred → List HP → Prop}
theorem ent_own {r e sz n cap : Nat} {cs : List Value} {L : List HP} (h0 : cs.length = n * sz) (h1 : n ≤ cap) (h2 : cap ≤ maxLen) (h3 : cs.length = cap * sz) : Ent (pt r (.cells cs.toArray e (0, 0)) :: L) (OwnS e sz (.slice (some ⟨r, 0, none⟩) n cap) n cs :: L) := fun F w hs => by
  have h4 : Sat w (pt r (.cells (cs ++ []).toArray e (0, 0)) :: F :: L) := by rw [List.append_nil]; exact hs.swap
  exact (Sat.own_block h4 h0 h1 h2 (by simpa using h3)).swap
theorem ent_freeze {e sz n : Nat} {v : Value} {cs : List Value} {L : List HP} : Ent (OwnS e sz v n cs :: L) (Vw sz v n cs :: L) := fun _ _ hs => hs.swap.own_freeze.swap
/-- A literal row of ints, frozen. -/
theorem JO_buildV (l : List Int) {t e : TypeId} [TU P t (.slice e)] {z : Value} {k : Nat} [TI P e z 1 k] {len : Nat} {parts : Array (Nat × Operand)} {xs : List Operand} {vs cs : List Value}
    (hp : inOrder parts.toList 0 = some xs) (hx : evs E xs = some vs) [hc : Cat vs 1 cs] (hl : vs.length = len) (he : cs = ints l) (hlen : len = l.length) (hb : len * 1 ≤ 16777216) (hd : dok N d = true)
    (h : ∀ r, next (put E d (.slice (some ⟨r, 0, none⟩) l.length l.length)) D (Vw 1 (.slice (some ⟨r, 0, none⟩) l.length l.length) l.length (ints l) :: L)) :
    JO P N rd ⟨d, .buildSlice t len parts, ty, pos, after, g⟩ E D L next Q := by
  subst hlen
  refine JO_weak (next := fun E' D' L' => ∃ r, E' = put E d (.slice (some ⟨r, 0, none⟩) l.length l.length) ∧ D' = D ∧ L' = pt r (.cells cs.toArray e (0, 0)) :: L) (JO_buildSlice (n := 1) hp hx hl hb hd (fun r => ⟨r, rfl, rfl, rfl⟩)) ?_
  rintro E' D' L' ⟨r, rfl, rfl, rfl⟩
  refine ⟨_, ?_, h r⟩
  rw [he]
  exact (ent_own (sz := 1) (by simp [ints]) (Nat.le_refl _) (Nat.le_trans (show l.length ≤ 16777216 by omega) (by decide)) (by simp [ints])).trans ent_freeze
end
end Go.Sp

/- Layer 9: is, fails, the chapter's examples. -/
namespace Go.Proofs.YtfelcdbhlahehaaDoor
open Go Go.Sp
/-! ### What fits, decided -/
def okD (un : Bool) (rl : Int) : List Int → List Int → Bool
  | _, [] => true
  | pre, n :: l => (!un || !pre.contains n) && decide (0 ≤ n) && decide (n ≤ rl) && okD un rl (pre ++ [n]) l
theorem okD_iff (un : Bool) (rl : Int) : ∀ (l pre : List Int), okD un rl pre l = true ↔ ∀ i, i < l.length → ∀ n, l[i]? = some n → (un = true → (∀ j, j < i → l[j]? ≠ some n) ∧ n ∉ pre) ∧ 0 ≤ n ∧ n ≤ rl := by
  intro l
  induction l with
  | nil => intro pre; simp [okD]
  | cons m l ih =>
    intro pre
    simp only [okD, Bool.and_eq_true, decide_eq_true_eq, ih]
    constructor
    · rintro ⟨⟨⟨h1, h2⟩, h3⟩, h4⟩ i hi n hn
      cases i with
      | zero =>
        simp only [List.getElem?_cons_zero, Option.some.injEq] at hn
        subst hn
        refine ⟨fun hu => ⟨fun j hj => absurd hj (by omega), ?_⟩, h2, h3⟩
        subst hu
        simpa using h1
      | succ i =>
        simp only [List.getElem?_cons_succ] at hn
        obtain ⟨g1, g2⟩ := h4 i (by simpa using hi) n hn
        refine ⟨fun hu => ⟨fun j hj => ?_, fun hm => (g1 hu).2 (by simp [hm])⟩, g2⟩
        cases j with
        | zero =>
          simp only [List.getElem?_cons_zero, ne_eq, Option.some.injEq]
          intro he
          exact (g1 hu).2 (by simp [he])
        | succ j =>
          simp only [List.getElem?_cons_succ]
          exact (g1 hu).1 j (by omega)
    · intro h
      have h0 := h 0 (by simp) m (by simp)
      refine ⟨⟨⟨?_, h0.2.1⟩, h0.2.2⟩, fun i hi n hn => ?_⟩
      · cases un with
        | false => rfl
        | true => simpa using (h0.1 rfl).2
      · obtain ⟨g1, g2⟩ := h (i + 1) (by simpa using hi) n (by simpa using hn)
        refine ⟨fun hu => ⟨fun j hj => ?_, fun hm => ?_⟩, g2⟩
        · have := (g1 hu).1 (j + 1) (by omega)
          simpa using this
        · rw [List.mem_append, List.mem_singleton] at hm
          rcases hm with hm | hm
          · exact (g1 hu).2 hm
          · subst hm
            exact (g1 hu).1 0 (by omega) (by simp)
def inD (n m : Int) : Bool := decide (0 ≤ n) && decide (n ≤ max m 0)
def fitsD (r : Row) (x : Ins) : Bool := (r.whole || decide (x.a = 0)) && decide (r.least ≤ x.l.length) && decide (x.l.length ≤ r.most) && inD x.b r.b && inD x.c r.c && inD x.d r.d && (!r.unlike || decide (r.c = -1) || !decide (x.b = x.c)) && okD r.unlike r.l [] x.l
theorem fits_iff {r : Row} {x : Ins} : fitsD r x = true ↔ fitsP r x := by
  unfold fitsD fitsP headP pairP inP okL okAt inD
  simp only [Bool.and_eq_true, Bool.or_eq_true, decide_eq_true_eq, okD_iff, Bool.not_eq_true', decide_eq_false_iff_not, List.not_mem_nil, not_false_eq_true, and_true]
  constructor
  · rintro ⟨⟨⟨⟨⟨⟨⟨h1, h2⟩, h3⟩, h4⟩, h5⟩, h6⟩, h7⟩, h8⟩
    exact ⟨⟨h1, h2, h3⟩, ⟨h4, h5, h6⟩, by rcases h7 with (h | h) | h <;> simp [h], h8⟩
  · rintro ⟨⟨h1, h2, h3⟩, ⟨h4, h5, h6⟩, h7, h8⟩
    exact ⟨⟨⟨⟨⟨⟨⟨h1, h2⟩, h3⟩, h4⟩, h5⟩, h6⟩, by rcases h7 with h | h | h <;> simp [h]⟩, h8⟩
theorem fits_t {r : Row} {x : Ins} (h : fitsD r x = true) : fitsP r x := fits_iff.1 h
theorem fits_f {r : Row} {x : Ins} (h : fitsD r x = false) : ¬ fitsP r x := fun hf => by rw [fits_iff.2 hf] at h; cases h
/-- What reading gives, reckoned. -/
def readD (bs : List UInt8) (pl : Int) : RdR := match bs with
  | [] => errR 3 pl [] pl
  | o :: t => if 24 < o.toNat then errR 11 pl t (pl + 1)
    else if (operK (rowOf o.toNat).1 o.toNat t (pl + 1)).c ≠ 0 then errR (operK (rowOf o.toNat).1 o.toNat t (pl + 1)).c (operK (rowOf o.toNat).1 o.toNat t (pl + 1)).a (operK (rowOf o.toNat).1 o.toNat t (pl + 1)).bs (operK (rowOf o.toNat).1 o.toNat t (pl + 1)).pl
    else if fitsD (rowOf o.toNat).1 (operK (rowOf o.toNat).1 o.toNat t (pl + 1)).x = true then operK (rowOf o.toNat).1 o.toNat t (pl + 1)
    else errR 2 pl (operK (rowOf o.toNat).1 o.toNat t (pl + 1)).bs (operK (rowOf o.toNat).1 o.toNat t (pl + 1)).pl
theorem read_D (bs : List UInt8) (pl : Int) : readR bs pl = readD bs pl := by
  have hb : ∀ (r : Row) (x : Ins), bP (fitsP r x) = fitsD r x := fun r x => by
    cases h : fitsD r x with
    | true => exact (bP_t (fits_t h)).symm
    | false => exact (bP_f (fits_f h)).symm
  cases bs with
  | nil => rfl
  | cons o t =>
    rw [read_cons, hb]
    rfl
theorem bytes_len {n : Nat} {x : Ins} (h24 : n ≤ 24) (hx : x.op = (n : Int)) (hf : fitsP (rowOf n).1 x) (ha : -9223372036854775808 ≤ x.a ∧ x.a ≤ 9223372036854775807) : (bytesL (rowOf n) x).length ≤ 131 ∧ 1 ≤ (bytesL (rowOf n) x).length := by
  by_cases h1 : n = 1
  · subst h1
    rw [bytes_one hx hf.1.2.2]
    have := enc_len10 (fold_lt ha)
    simp
    omega
  · rw [bytes_tail h24 hx h1 hf.1.2.2]
    obtain ⟨⟨f0, f1, f2⟩, ⟨f3, f4, f5⟩, f6, f7⟩ := hf
    obtain ⟨b1, b2, b3, b4⟩ := row_small h24
    obtain ⟨b5, b6⟩ := row_few h24
    have o1 := opt_len (m := (rowOf n).1.b) (in_bound f3 b1)
    have o2 := opt_len (m := (rowOf n).1.c) (in_bound f4 b2)
    have o3 := opt_len (m := (rowOf n).1.d) (in_bound f5 b3)
    have o4 := flat_len (okL_mem f7 b4)
    have o5 := enc_len10 (n := x.l.length) (by omega)
    unfold tailL
    simp only [List.length_cons, List.length_append]
    split
    · omega
    · simp only [List.length_nil]; omega
theorem Ct.postS {f : FuncId} {args : Array Value} {L : List HP} {R R' : Ending → List HP → Prop} (h : Ct Tryd.prog f args L R) (hr : ∀ e L', R e L' → ∀ F w, Sat w (F :: L') → ∃ L'', R' e L'' ∧ Sat w (F :: L'')) : Ct Tryd.prog f args L R' := fun F w hs =>
  (h F w hs).mono fun _ w' ⟨hne, _, r, s⟩ => let ⟨L'', r', s'⟩ := hr _ _ r F w' s; ⟨hne, L'', r', s'⟩
theorem sat_er0 {v : Value} {a : Int} {w : World} {L : List HP} (h : Sat w (Er v 0 a :: L)) : v = .nilIface := h.out fun _ hk => hk.elim (fun h => h.2.2) (fun h => absurd rfl h.1)
theorem sat_er1 {v : Value} {c a : Int} {w : World} {L : List HP} (hc : c ≠ 0) (h : Sat w (Er v c a :: L)) : ∃ q, v = faultI q ∧ Sat w (Ft q c a :: L) := by
  obtain ⟨q, h1⟩ := h.outE (α := Nat) (B := fun q k => v = faultI q ∧ Ft q c a k) (fun k hk => hk.elim (fun h => absurd h.1 hc) (fun h => h.2))
  exact ⟨q, h1.out fun _ hk => hk.1, h1.conv fun _ hk => hk.2⟩
theorem read_ok (q : Nat) (bs : List UInt8) (pl : Int) (hpl : 0 ≤ pl ∧ pl + bs.length ≤ 1000000) {x : Ins} {bs' : List UInt8} {pl' : Int} (h : readR bs pl = ⟨x, 0, 0, bs', pl'⟩) :
    Ct Tryd.prog 24 #[ptr q] [RdB q bs pl] (RetE (fun y : Option Addr × Nat => x.l.length ≤ y.2) (fun y => .tuple #[.agg (insC x (.slice y.1 x.l.length y.2)).toArray, .nilIface]) (fun y => [Vw 1 (.slice y.1 x.l.length y.2) x.l.length (ints x.l), RdB q bs' pl'])) :=
  Ct.postS (read_c q bs pl hpl) fun e L' ⟨⟨v, p, cap⟩, hc, he, hL⟩ F w hs => by
    rw [h] at hc he hL
    dsimp only at hc he hL
    rw [hL] at hs
    obtain rfl := sat_er0 hs.rot
    exact ⟨_, ⟨(p, cap), hc, he, rfl⟩, hs.rot.tail.rot.rot⟩
theorem read_bad (q : Nat) (bs : List UInt8) (pl : Int) (hpl : 0 ≤ pl ∧ pl + bs.length ≤ 1000000) {c a : Int} {bs' : List UInt8} {pl' : Int} (h : readR bs pl = errR c a bs' pl') (hc0 : c ≠ 0) :
    Ct Tryd.prog 24 #[ptr q] [RdB q bs pl] (RetE (fun _ : Nat × Option Addr × Nat => True) (fun y => .tuple #[.agg (insC zeroI (.slice y.2.1 0 y.2.2)).toArray, faultI y.1]) (fun y => [Ft y.1 c a, Vw 1 (.slice y.2.1 0 y.2.2) 0 (ints []), RdB q bs' pl'])) :=
  Ct.postS (read_c q bs pl hpl) fun e L' ⟨⟨v, p, cap⟩, hc, he, hL⟩ F w hs => by
    rw [h] at hc he hL
    unfold errR at hc he hL
    dsimp only at hc he hL
    rw [hL] at hs
    obtain ⟨qf, rfl, h1⟩ := sat_er1 hc0 hs.rot
    exact ⟨_, ⟨(qf, p, cap), trivial, he, rfl⟩, h1.rot.rot.rot⟩
theorem wb0 : bytesL (rowOf 0) ⟨0, 0, 0, 0, 0, []⟩ = [0] := by simp [bytesL, rowOf, optL, encI, encU_lt, encU_ge, foldZ]
theorem wf0 : fitsP (rowOf 0).1 ⟨0, 0, 0, 0, 0, []⟩ := fits_t (by decide)
theorem wb1 : bytesL (rowOf 1) ⟨1, (-2), 0, 0, 0, []⟩ = [1, 3] := by simp [bytesL, rowOf, optL, encI, encU_lt, encU_ge, foldZ]
theorem wf1 : fitsP (rowOf 1).1 ⟨1, (-2), 0, 0, 0, []⟩ := fits_t (by decide)
theorem wb2 : bytesL (rowOf 9) ⟨9, 0, 3, 0, 0, []⟩ = [9, 3] := by simp [bytesL, rowOf, optL, encI, encU_lt, encU_ge, foldZ]
theorem wf2 : fitsP (rowOf 9).1 ⟨9, 0, 3, 0, 0, []⟩ := fits_t (by decide)
theorem wb3 : bytesL (rowOf 16) ⟨16, 0, 1, 2, 0, []⟩ = [16, 1, 2] := by simp [bytesL, rowOf, optL, encI, encU_lt, encU_ge, foldZ]
theorem wf3 : fitsP (rowOf 16).1 ⟨16, 0, 1, 2, 0, []⟩ := fits_t (by decide)
theorem wd4 : ([.int .i64 5] : List Value) = ints [5] := rfl
theorem wb4 : bytesL (rowOf 11) ⟨11, 0, 0, 0, 0, [5]⟩ = [11, 5] := by simp [bytesL, rowOf, optL, encI, encU_lt, encU_ge, foldZ]
theorem wf4 : fitsP (rowOf 11).1 ⟨11, 0, 0, 0, 0, [5]⟩ := fits_t (by decide)
theorem wd5 : ([.int .i64 127] : List Value) = ints [127] := rfl
theorem wb5 : bytesL (rowOf 12) ⟨12, 0, 0, 0, 0, [127]⟩ = [12, 127] := by simp [bytesL, rowOf, optL, encI, encU_lt, encU_ge, foldZ]
theorem wf5 : fitsP (rowOf 12).1 ⟨12, 0, 0, 0, 0, [127]⟩ := fits_t (by decide)
theorem wb6 : bytesL (rowOf 18) ⟨18, 0, 1, 7, 0, []⟩ = [18, 1, 7] := by simp [bytesL, rowOf, optL, encI, encU_lt, encU_ge, foldZ]
theorem wf6 : fitsP (rowOf 18).1 ⟨18, 0, 1, 7, 0, []⟩ := fits_t (by decide)
theorem wd7 : ([.int .i64 4, .int .i64 9] : List Value) = ints [4, 9] := rfl
theorem wb7 : bytesL (rowOf 19) ⟨19, 0, 0, 0, 0, [4, 9]⟩ = [19, 0, 2, 4, 9] := by simp [bytesL, rowOf, optL, encI, encU_lt, encU_ge, foldZ]
theorem wf7 : fitsP (rowOf 19).1 ⟨19, 0, 0, 0, 0, [4, 9]⟩ := fits_t (by decide)
theorem wd8 : ([.int .i64 0, .int .i64 1] : List Value) = ints [0, 1] := rfl
theorem wb8 : bytesL (rowOf 20) ⟨20, 0, 2, 0, 300, [0, 1]⟩ = [20, 2, 172, 2, 0, 1] := by simp [bytesL, rowOf, optL, encI, encU_lt, encU_ge, foldZ]
theorem wf8 : fitsP (rowOf 20).1 ⟨20, 0, 2, 0, 300, [0, 1]⟩ := fits_t (by decide)
theorem wd9 : ([.int .i64 0, .int .i64 3] : List Value) = ints [0, 3] := rfl
theorem wb9 : bytesL (rowOf 21) ⟨21, 0, 1, 0, 0, [0, 3]⟩ = [21, 1, 2, 0, 3] := by simp [bytesL, rowOf, optL, encI, encU_lt, encU_ge, foldZ]
theorem wf9 : fitsP (rowOf 21).1 ⟨21, 0, 1, 0, 0, [0, 3]⟩ := fits_t (by decide)
theorem wb10 : bytesL (rowOf 24) ⟨24, 0, 0, 0, 0, []⟩ = [24] := by simp [bytesL, rowOf, optL, encI, encU_lt, encU_ge, foldZ]
theorem wf10 : fitsP (rowOf 24).1 ⟨24, 0, 0, 0, 0, []⟩ := fits_t (by decide)
attribute [local irreducible] callFunc Go.method J JL JO Ct JG JM JW JW1 JQ JQ0 JS CtD LeavesQ ints RdB Er by8 Gl readR bytesL fitsP
set_option maxHeartbeats 4000000 in
theorem isI_c (x : Ins) (p : Option Addr) (cap : Nat) (hc : x.l.length ≤ cap) (hm : x.l.length ≤ 1000) (ha : -9223372036854775808 ≤ x.a ∧ x.a ≤ 9223372036854775807) {n : Nat} (hn : x.op = (n : Int)) (hn24 : n ≤ 24) (hfit : fitsP (rowOf n).1 x) (want : List UInt8) (hw : want = bytesL (rowOf n) x) :
    Ct Tryd.prog 35 #[.agg (insC x (.slice p x.l.length cap)).toArray, str want] [Vw 1 (.slice p x.l.length cap) x.l.length (ints x.l)] (RetV (.bool true) []) := by
  have hb := bytes_ok x p cap hc hm ha hn hn24 hfit
  have hl := (bytes_len hn24 hn hfit ha).1
  have hr0 := read_lay hn24 hn hfit ha [] 0
  rw [List.append_nil] at hr0
  rw [← hw] at hb hl hr0
  have hr := fun q => read_ok q want 0 (by omega) hr0
  refine fn_ret (vs := [_, _]) Tryd.func35 rfl Tryd.ntmps35 (by simp) ?_
  repeat (first | (first | refine J_region ?_ | refine JL_nil ?_ | refine J_seq ?_ | refine J_skip ?_ | refine J_condF rfl ?_) | (first | ((first | refine JL_step rfl ?_); first | refine JO_callE rfl (newreader_B want (Nat.le_trans hl (by decide))) rfl (fun q _ => ?_) | refine JO_q (by simp) (JQ_eqP rfl) rfl ?_ | refine JO_callE rfl (hr q) rfl (fun y hy => ?_) | refine JO_storeW rfl rfl (by rfl) (by rfl) (ins_one rfl) rfl ?_ | refine JO_move rfl rfl ?_ | refine JO_assign rfl rfl ?_ | refine JO_loadW rfl (by rfl) rfl ?_ | refine JO_extract rfl rfl rfl ?_ | refine JO_boxA rfl rfl (fun r => ?_) | refine JO_allocA rfl (fun r => ?_))))
  have hs := lsame_c x p y.1 cap y.2 (by omega)
  have he := end_okB q (0 + (want.length : Int))
  repeat (first | (first | refine JL_nil ?_ | refine J_ret ?_) | (first | ((first | refine JL_step rfl ?_ | refine JL_take rfl rfl ?_); first | refine JO_q (by simp) (JQ_eqS0 rfl rfl) rfl ?_ | refine JO_q (by simp) (JQ_eqI0 rfl) rfl ?_ | refine JO_move rfl rfl ?_ | refine JO_assign rfl rfl ?_ | refine JO_loadW rfl (by rfl) rfl ?_ | refine JO_pickT rfl rfl rfl ?_ | refine JO_callVP rfl (hb) rfl ?_ | refine JO_callVP rfl (hs) rfl ?_ | refine JO_callV' rfl (he) rfl ?_)))
  exact ret_oneV rfl rfl .nil
set_option maxHeartbeats 4000000 in
theorem fails9_c (s : List UInt8) (hs : s.length ≤ 100000) (c a : Int) (bs' : List UInt8) (pl' : Int) (h : readR s 0 = errR c a bs' pl') (hc : c ≠ 0) (te : TypeId) (fz : Nat × Nat) :
    Ct Tryd.prog 34 #[str s, .int .i64 c, .int .i64 a] [Gl te fz] (RetV (.bool true) [Gl te fz]) := by
  have hr := fun q => read_bad q s 0 (by omega) h hc
  refine fn_ret (vs := [_, _, _]) Tryd.func34 rfl Tryd.ntmps34 (by simp) ?_
  repeat (first | (first | refine J_region ?_ | refine JL_nil ?_ | refine J_seq ?_ | refine J_skip ?_ | refine J_condF rfl ?_) | (first | ((first | refine JL_step rfl ?_); first | refine JO_callE rfl (newreader_B s (Nat.le_trans hs (by decide))) rfl (fun q _ => ?_) | refine JO_q (by simp) (JQ_eqP rfl) rfl ?_ | refine JO_callE rfl (hr q) rfl (fun y hy => ?_) | refine JO_storeW rfl rfl (by rfl) (by rfl) (ins_one rfl) rfl ?_ | refine JO_move rfl rfl ?_ | refine JO_assign rfl rfl ?_ | refine JO_extract rfl rfl rfl ?_ | refine JO_allocA rfl (fun r => ?_))))
  have ht := told9_faultK y.1 c a hc te fz
  have hsm : Ct Tryd.prog 42 #[.agg (insC zeroI (.slice y.2.1 0 y.2.2)).toArray, .agg (insC zeroI (.slice none 0 0)).toArray] [Vw 1 (.slice y.2.1 0 y.2.2) 0 (ints []), Vw 1 (.slice none 0 0) 0 (ints [])] (RetV (.bool true) []) := lsame_c zeroI y.2.1 none y.2.2 0 (by decide)
  refine JL_heap vw0 ?_
  repeat (first | (first | refine JL_nil ?_ | refine J_ret ?_) | (first | ((first | refine JL_step rfl ?_ | refine JL_take rfl rfl ?_); first | refine JO_build (cs := [.int .i64 c, .int .i64 a]) rfl rfl rfl ?_ | refine JO_build (cs := insC zeroI (.slice none 0 0)) rfl rfl rfl ?_ | refine JO_move rfl rfl ?_ | refine JO_assign rfl rfl ?_ | refine JO_loadW rfl (by rfl) rfl ?_ | refine JO_pickT rfl rfl rfl ?_ | refine JO_callV' rfl (ht) rfl ?_ | refine JO_callVP rfl (hsm) rfl ?_)))
  exact ret_oneV rfl rfl Ent.sel
set_option maxRecDepth 8000 in
set_option maxHeartbeats 8000000 in
theorem works9_c (te : TypeId) (fz : Nat × Nat) : Ct Tryd.prog 30 #[] [Gl te fz] (RetV (.bool true) [Gl te fz]) := by
  have s0 : Ct Tryd.prog 35 #[.agg (insC ⟨0, 0, 0, 0, 0, []⟩ (.slice none 0 0)).toArray, str [0]] [Vw 1 (.slice none 0 0) 0 (ints [])] (RetV (.bool true) []) := isI_c ⟨0, 0, 0, 0, 0, []⟩ none 0 (by decide) (by decide) (by decide) (n := 0) rfl (by decide) wf0 _ wb0.symm
  have s1 : Ct Tryd.prog 35 #[.agg (insC ⟨1, (-2), 0, 0, 0, []⟩ (.slice none 0 0)).toArray, str [1, 3]] [Vw 1 (.slice none 0 0) 0 (ints [])] (RetV (.bool true) []) := isI_c ⟨1, (-2), 0, 0, 0, []⟩ none 0 (by decide) (by decide) (by decide) (n := 1) rfl (by decide) wf1 _ wb1.symm
  have s2 : Ct Tryd.prog 35 #[.agg (insC ⟨9, 0, 3, 0, 0, []⟩ (.slice none 0 0)).toArray, str [9, 3]] [Vw 1 (.slice none 0 0) 0 (ints [])] (RetV (.bool true) []) := isI_c ⟨9, 0, 3, 0, 0, []⟩ none 0 (by decide) (by decide) (by decide) (n := 9) rfl (by decide) wf2 _ wb2.symm
  have s3 : Ct Tryd.prog 35 #[.agg (insC ⟨16, 0, 1, 2, 0, []⟩ (.slice none 0 0)).toArray, str [16, 1, 2]] [Vw 1 (.slice none 0 0) 0 (ints [])] (RetV (.bool true) []) := isI_c ⟨16, 0, 1, 2, 0, []⟩ none 0 (by decide) (by decide) (by decide) (n := 16) rfl (by decide) wf3 _ wb3.symm
  have s4 : ∀ r : Nat, Ct Tryd.prog 35 #[.agg (insC ⟨11, 0, 0, 0, 0, [5]⟩ (.slice (some ⟨r, 0, none⟩) 1 1)).toArray, str [11, 5]] [Vw 1 (.slice (some ⟨r, 0, none⟩) 1 1) 1 (ints [5])] (RetV (.bool true) []) := fun r => isI_c ⟨11, 0, 0, 0, 0, [5]⟩ _ 1 (by decide) (by decide) (by decide) (n := 11) rfl (by decide) wf4 _ wb4.symm
  have s5 : ∀ r : Nat, Ct Tryd.prog 35 #[.agg (insC ⟨12, 0, 0, 0, 0, [127]⟩ (.slice (some ⟨r, 0, none⟩) 1 1)).toArray, str [12, 127]] [Vw 1 (.slice (some ⟨r, 0, none⟩) 1 1) 1 (ints [127])] (RetV (.bool true) []) := fun r => isI_c ⟨12, 0, 0, 0, 0, [127]⟩ _ 1 (by decide) (by decide) (by decide) (n := 12) rfl (by decide) wf5 _ wb5.symm
  have s6 : Ct Tryd.prog 35 #[.agg (insC ⟨18, 0, 1, 7, 0, []⟩ (.slice none 0 0)).toArray, str [18, 1, 7]] [Vw 1 (.slice none 0 0) 0 (ints [])] (RetV (.bool true) []) := isI_c ⟨18, 0, 1, 7, 0, []⟩ none 0 (by decide) (by decide) (by decide) (n := 18) rfl (by decide) wf6 _ wb6.symm
  have s7 : ∀ r : Nat, Ct Tryd.prog 35 #[.agg (insC ⟨19, 0, 0, 0, 0, [4, 9]⟩ (.slice (some ⟨r, 0, none⟩) 2 2)).toArray, str [19, 0, 2, 4, 9]] [Vw 1 (.slice (some ⟨r, 0, none⟩) 2 2) 2 (ints [4, 9])] (RetV (.bool true) []) := fun r => isI_c ⟨19, 0, 0, 0, 0, [4, 9]⟩ _ 2 (by decide) (by decide) (by decide) (n := 19) rfl (by decide) wf7 _ wb7.symm
  have s8 : ∀ r : Nat, Ct Tryd.prog 35 #[.agg (insC ⟨20, 0, 2, 0, 300, [0, 1]⟩ (.slice (some ⟨r, 0, none⟩) 2 2)).toArray, str [20, 2, 172, 2, 0, 1]] [Vw 1 (.slice (some ⟨r, 0, none⟩) 2 2) 2 (ints [0, 1])] (RetV (.bool true) []) := fun r => isI_c ⟨20, 0, 2, 0, 300, [0, 1]⟩ _ 2 (by decide) (by decide) (by decide) (n := 20) rfl (by decide) wf8 _ wb8.symm
  have s9 : ∀ r : Nat, Ct Tryd.prog 35 #[.agg (insC ⟨21, 0, 1, 0, 0, [0, 3]⟩ (.slice (some ⟨r, 0, none⟩) 2 2)).toArray, str [21, 1, 2, 0, 3]] [Vw 1 (.slice (some ⟨r, 0, none⟩) 2 2) 2 (ints [0, 3])] (RetV (.bool true) []) := fun r => isI_c ⟨21, 0, 1, 0, 0, [0, 3]⟩ _ 2 (by decide) (by decide) (by decide) (n := 21) rfl (by decide) wf9 _ wb9.symm
  have s10 : Ct Tryd.prog 35 #[.agg (insC ⟨24, 0, 0, 0, 0, []⟩ (.slice none 0 0)).toArray, str [24]] [Vw 1 (.slice none 0 0) 0 (ints [])] (RetV (.bool true) []) := isI_c ⟨24, 0, 0, 0, 0, []⟩ none 0 (by decide) (by decide) (by decide) (n := 24) rfl (by decide) wf10 _ wb10.symm
  have f0 := fails9_c [] (by decide) 3 0 _ _ ((read_D _ _).trans rfl) (by decide) te fz
  have f1 := fails9_c [25] (by decide) 11 0 _ _ ((read_D _ _).trans rfl) (by decide) te fz
  have f2 := fails9_c [16, 1, 1] (by decide) 2 0 _ _ ((read_D _ _).trans rfl) (by decide) te fz
  have f3 := fails9_c [19, 0, 0] (by decide) 2 0 _ _ ((read_D _ _).trans rfl) (by decide) te fz
  have f4 := fails9_c [9, 16] (by decide) 4 1 _ _ ((read_D _ _).trans rfl) (by decide) te fz
  have f5 := fails9_c [19, 0, 9] (by decide) 4 2 _ _ ((read_D _ _).trans rfl) (by decide) te fz
  have f6 := fails9_c [11, 128, 1] (by decide) 4 1 _ _ ((read_D _ _).trans rfl) (by decide) te fz
  refine fn_ret (vs := []) Tryd.func30 rfl Tryd.ntmps30 (by simp) ?_
  refine J_heap vw0 ?_
  repeat (first | (first | refine J_region ?_ | refine JL_nil ?_ | refine J_seq ?_ | refine J_ret ?_) | (first | ((first | refine JL_step rfl ?_ | refine JL_take rfl rfl ?_); first | refine JO_build (cs := insC ⟨0, 0, 0, 0, 0, []⟩ (.slice none 0 0)) rfl rfl rfl ?_ | refine JO_build (cs := insC ⟨1, (-2), 0, 0, 0, []⟩ (.slice none 0 0)) rfl rfl rfl ?_ | refine JO_build (cs := insC ⟨9, 0, 3, 0, 0, []⟩ (.slice none 0 0)) rfl rfl rfl ?_ | refine JO_build (cs := insC ⟨16, 0, 1, 2, 0, []⟩ (.slice none 0 0)) rfl rfl rfl ?_ | refine JO_buildV [5] rfl rfl rfl wd4 rfl (by decide) rfl (fun r => ?_) | refine JO_build (cs := insC ⟨11, 0, 0, 0, 0, [5]⟩ (.slice (some ⟨_, 0, none⟩) 1 1)) rfl rfl rfl ?_ | refine JO_buildV [127] rfl rfl rfl wd5 rfl (by decide) rfl (fun r => ?_) | refine JO_build (cs := insC ⟨12, 0, 0, 0, 0, [127]⟩ (.slice (some ⟨_, 0, none⟩) 1 1)) rfl rfl rfl ?_ | refine JO_build (cs := insC ⟨18, 0, 1, 7, 0, []⟩ (.slice none 0 0)) rfl rfl rfl ?_ | refine JO_buildV [4, 9] rfl rfl rfl wd7 rfl (by decide) rfl (fun r => ?_) | refine JO_build (cs := insC ⟨19, 0, 0, 0, 0, [4, 9]⟩ (.slice (some ⟨_, 0, none⟩) 2 2)) rfl rfl rfl ?_ | refine JO_buildV [0, 1] rfl rfl rfl wd8 rfl (by decide) rfl (fun r => ?_) | refine JO_build (cs := insC ⟨20, 0, 2, 0, 300, [0, 1]⟩ (.slice (some ⟨_, 0, none⟩) 2 2)) rfl rfl rfl ?_ | refine JO_buildV [0, 3] rfl rfl rfl wd9 rfl (by decide) rfl (fun r => ?_) | refine JO_build (cs := insC ⟨21, 0, 1, 0, 0, [0, 3]⟩ (.slice (some ⟨_, 0, none⟩) 2 2)) rfl rfl rfl ?_ | refine JO_build (cs := insC ⟨24, 0, 0, 0, 0, []⟩ (.slice none 0 0)) rfl rfl rfl ?_ | refine JO_move rfl rfl ?_ | refine JO_assign rfl rfl ?_ | refine JO_pickT rfl rfl rfl ?_ | refine JO_callVP rfl (s0) rfl ?_ | refine JO_callVP rfl (s1) rfl ?_ | refine JO_callVP rfl (s2) rfl ?_ | refine JO_callVP rfl (s3) rfl ?_ | refine JO_callVP rfl (s4 _) rfl ?_ | refine JO_callVP rfl (s5 _) rfl ?_ | refine JO_callVP rfl (s6) rfl ?_ | refine JO_callVP rfl (s7 _) rfl ?_ | refine JO_callVP rfl (s8 _) rfl ?_ | refine JO_callVP rfl (s9 _) rfl ?_ | refine JO_callVP rfl (s10) rfl ?_ | refine JO_callVP rfl (f0) rfl ?_ | refine JO_callVP rfl (f1) rfl ?_ | refine JO_callVP rfl (f2) rfl ?_ | refine JO_callVP rfl (f3) rfl ?_ | refine JO_callVP rfl (f4) rfl ?_ | refine JO_callVP rfl (f5) rfl ?_ | refine JO_callVP rfl (f6) rfl ?_)))
  exact ret_oneV rfl rfl Ent.sel
end Go.Proofs.YtfelcdbhlahehaaDoor

/- Layer 9: InsnReads' walk. -/
namespace Go.Proofs.YtfelcdbhlahehaaDoor
open Go Go.Sp
attribute [local irreducible] callFunc Go.method J JL JO Ct JG JM JW JW1 JQ JQ0 JS CtD LeavesQ ints RdB Er by8 Gl readR
end Go.Proofs.YtfelcdbhlahehaaDoor

/- The library, 48: equal bools. -/
namespace Go.Sp
open Go
section
variable {P : Program} {N : Nat} {E : Env} {D : List Deferred} {L L0 : List HP} {Q : Post} {m : Nat}
variable {d : Option Nat} {ty : TypeId} {pos : String} {after : Array Edge} {g : Option (Nat × Bool)}
end
end Go.Sp

/- Layer 9: InsnCuts' walk, InsnPuts' walk. -/
namespace Go.Proofs.YtfelcdbhlahehaaDoor
open Go Go.Sp
attribute [local irreducible] callFunc Go.method J JL JO Ct JG JM JW JW1 JQ JQ0 JS CtD LeavesQ ints RdB WrB Er by8 Gl bytesL fitsP chkA
end Go.Proofs.YtfelcdbhlahehaaDoor

/- Layer 9: InsnBack's walk. -/
namespace Go.Proofs.YtfelcdbhlahehaaDoor
open Go Go.Sp
abbrev YI := Ins × Option Addr × Nat
/-- The rows of instructions' numbers. -/
def Rows9 (ys : List YI) : HP := fun k => ∀ y ∈ ys, Vw 1 (.slice y.2.1 y.1.l.length y.2.2) y.1.l.length (ints y.1.l) k
theorem pers_rows9 (ys : List YI) : Pers (Rows9 ys) := fun _ h y hy => pers_vw _ _ _ _ _ (h y hy)
theorem rows9_at {ys : List YI} {y : YI} (hy : y ∈ ys) (k : Part) (h : Rows9 ys k) : ∃ _ : Unit, Star [Vw 1 (.slice y.2.1 y.1.l.length y.2.2) y.1.l.length (ints y.1.l)] k :=
  ⟨(), star_pers fun A hA => by
    simp only [List.mem_cons, List.not_mem_nil, or_false] at hA
    subst hA
    exact ⟨pers_vw _ _ _ _, h y hy⟩⟩
theorem rows9_nil {L : List HP} : Ent L (Rows9 [] :: L) := Ent.cons fun w M h => h.add (fun y hy => by cases hy)
theorem up_rows9 (ys : List YI) : Up (Rows9 ys) := fun _ _ hl h y hy => up_vw _ _ _ _ _ _ hl (h y hy)
theorem cellsI_len (y : YI) : (cellsI y).length = 6 := rfl
section
variable {P : Program} {N : Nat} {E : Env} {D : List Deferred} {L : List HP} {d : Option Nat} {ty : TypeId} {pos : String} {after : Array Edge} {g : Option (Nat × Bool)}
end
attribute [local irreducible] callFunc Go.method J JL JO Ct JG JM JW JW1 JQ JQ0 JS CtD LeavesQ ints RdB WrB Er by8 Gl bytesL fitsP chkA Rows9
end Go.Proofs.YtfelcdbhlahehaaDoor

/- Layer 9: InsnKnown's walk. -/
namespace Go.Proofs.YtfelcdbhlahehaaDoor
open Go Go.Sp
def plainN : List Nat := [0, 2, 3, 4, 5, 6, 7, 8, 13, 24]
theorem plain_ok {n : Nat} (h : n ∈ plainN) : n ≤ 24 ∧ fitsP (rowOf n).1 ⟨(n : Int), 0, 0, 0, 0, []⟩ ∧ [UInt8.ofNat n] = bytesL (rowOf n) ⟨(n : Int), 0, 0, 0, 0, []⟩ ∧ chkA ⟨(n : Int), 0, 1, 0, 0, []⟩ = 2 ∧ chkA ⟨(n : Int), 0, 0, 0, 0, [0]⟩ = 2 := by
  simp only [plainN, List.mem_cons, List.not_mem_nil, or_false] at h
  rcases h with rfl | rfl | rfl | rfl | rfl | rfl | rfl | rfl | rfl | rfl
  · exact ⟨by decide, fits_t (by decide), by simp [bytesL, rowOf, optL, encI, encU_lt, encU_ge, foldZ], chk_bad (n := 0) rfl (by decide) (fits_f (by decide)), chk_bad (n := 0) rfl (by decide) (fits_f (by decide))⟩
  · exact ⟨by decide, fits_t (by decide), by simp [bytesL, rowOf, optL, encI, encU_lt, encU_ge, foldZ], chk_bad (n := 2) rfl (by decide) (fits_f (by decide)), chk_bad (n := 2) rfl (by decide) (fits_f (by decide))⟩
  · exact ⟨by decide, fits_t (by decide), by simp [bytesL, rowOf, optL, encI, encU_lt, encU_ge, foldZ], chk_bad (n := 3) rfl (by decide) (fits_f (by decide)), chk_bad (n := 3) rfl (by decide) (fits_f (by decide))⟩
  · exact ⟨by decide, fits_t (by decide), by simp [bytesL, rowOf, optL, encI, encU_lt, encU_ge, foldZ], chk_bad (n := 4) rfl (by decide) (fits_f (by decide)), chk_bad (n := 4) rfl (by decide) (fits_f (by decide))⟩
  · exact ⟨by decide, fits_t (by decide), by simp [bytesL, rowOf, optL, encI, encU_lt, encU_ge, foldZ], chk_bad (n := 5) rfl (by decide) (fits_f (by decide)), chk_bad (n := 5) rfl (by decide) (fits_f (by decide))⟩
  · exact ⟨by decide, fits_t (by decide), by simp [bytesL, rowOf, optL, encI, encU_lt, encU_ge, foldZ], chk_bad (n := 6) rfl (by decide) (fits_f (by decide)), chk_bad (n := 6) rfl (by decide) (fits_f (by decide))⟩
  · exact ⟨by decide, fits_t (by decide), by simp [bytesL, rowOf, optL, encI, encU_lt, encU_ge, foldZ], chk_bad (n := 7) rfl (by decide) (fits_f (by decide)), chk_bad (n := 7) rfl (by decide) (fits_f (by decide))⟩
  · exact ⟨by decide, fits_t (by decide), by simp [bytesL, rowOf, optL, encI, encU_lt, encU_ge, foldZ], chk_bad (n := 8) rfl (by decide) (fits_f (by decide)), chk_bad (n := 8) rfl (by decide) (fits_f (by decide))⟩
  · exact ⟨by decide, fits_t (by decide), by simp [bytesL, rowOf, optL, encI, encU_lt, encU_ge, foldZ], chk_bad (n := 13) rfl (by decide) (fits_f (by decide)), chk_bad (n := 13) rfl (by decide) (fits_f (by decide))⟩
  · exact ⟨by decide, fits_t (by decide), by simp [bytesL, rowOf, optL, encI, encU_lt, encU_ge, foldZ], chk_bad (n := 24) rfl (by decide) (fits_f (by decide)), chk_bad (n := 24) rfl (by decide) (fits_f (by decide))⟩
theorem plain_len : plainN.length = 10 := rfl
theorem plain_cells : [.int .i64 0, .int .i64 2, .int .i64 3, .int .i64 4, .int .i64 5, .int .i64 6, .int .i64 7, .int .i64 8, .int .i64 13, .int .i64 24] = plainN.map (fun n : Nat => Value.int .i64 (n : Int)) := rfl
theorem by8_ofNat {n : Nat} : [Value.int .u8 ((n % 256 : Nat) : Int)] = by8 [UInt8.ofNat n] := by simp [by8]
/-- What may not be. -/
def bads (r1 r2 r3 r4 r5 r6 r7 r8 r9 : Nat) : List YI := [(⟨0, 1, 0, 0, 0, []⟩, none, 0), (⟨9, 0, 16, 0, 0, []⟩, none, 0), (⟨10, 0, (-1), 0, 0, []⟩, none, 0), (⟨14, 0, 0, 1, 0, []⟩, none, 0), (⟨17, 0, 4, 4, 0, []⟩, none, 0), (⟨23, 0, 0, 16, 0, []⟩, none, 0), (⟨11, 0, 0, 0, 0, []⟩, none, 0), (⟨11, 0, 0, 0, 0, [1, 2]⟩, some ⟨r1, 0, none⟩, [1, 2].length), (⟨12, 0, 0, 0, 0, [128]⟩, some ⟨r2, 0, none⟩, [128].length), (⟨18, 0, 0, 8, 0, []⟩, none, 0), (⟨19, 0, 0, 0, 0, []⟩, none, 0), (⟨19, 0, 0, 0, 0, [0, 0, 0, 0, 0, 0, 0, 0, 0]⟩, some ⟨r3, 0, none⟩, [0, 0, 0, 0, 0, 0, 0, 0, 0].length), (⟨20, 0, 0, 0, 0, [1, 1]⟩, some ⟨r4, 0, none⟩, [1, 1].length), (⟨20, 0, 0, 0, 0, [1]⟩, some ⟨r5, 0, none⟩, [1].length), (⟨20, 0, 0, 0, 1001, [0, 1]⟩, some ⟨r6, 0, none⟩, [0, 1].length), (⟨20, 0, 64, 0, 0, [0, 1]⟩, some ⟨r7, 0, none⟩, [0, 1].length), (⟨21, 0, 16, 0, 0, []⟩, none, 0), (⟨21, 0, 0, 0, 0, [3, 3]⟩, some ⟨r8, 0, none⟩, [3, 3].length), (⟨21, 0, 0, 0, 0, [0, 1, 2, 3, 4, 5, 6, 7, 8]⟩, some ⟨r9, 0, none⟩, [0, 1, 2, 3, 4, 5, 6, 7, 8].length), (⟨22, 0, 0, 0, 1, []⟩, none, 0), (⟨1, 0, 1, 0, 0, []⟩, none, 0)]
theorem bads_ok {r1 r2 r3 r4 r5 r6 r7 r8 r9 : Nat} : ∀ z ∈ bads r1 r2 r3 r4 r5 r6 r7 r8 r9, chkA z.1 = 2 ∧ z.1.l.length ≤ z.2.2 ∧ z.1.l.length ≤ 1000 := by
  intro z hz
  simp only [bads, List.mem_cons, List.not_mem_nil, or_false] at hz
  rcases hz with rfl | rfl | rfl | rfl | rfl | rfl | rfl | rfl | rfl | rfl | rfl | rfl | rfl | rfl | rfl | rfl | rfl | rfl | rfl | rfl | rfl
  · exact ⟨chk_bad (n := 0) rfl (by decide) (fits_f (show fitsD (rowOf 0).1 ⟨0, 1, 0, 0, 0, []⟩ = false by decide)), show 0 ≤ 0 by decide, show 0 ≤ 1000 by decide⟩
  · exact ⟨chk_bad (n := 9) rfl (by decide) (fits_f (show fitsD (rowOf 9).1 ⟨9, 0, 16, 0, 0, []⟩ = false by decide)), show 0 ≤ 0 by decide, show 0 ≤ 1000 by decide⟩
  · exact ⟨chk_bad (n := 10) rfl (by decide) (fits_f (show fitsD (rowOf 10).1 ⟨10, 0, (-1), 0, 0, []⟩ = false by decide)), show 0 ≤ 0 by decide, show 0 ≤ 1000 by decide⟩
  · exact ⟨chk_bad (n := 14) rfl (by decide) (fits_f (show fitsD (rowOf 14).1 ⟨14, 0, 0, 1, 0, []⟩ = false by decide)), show 0 ≤ 0 by decide, show 0 ≤ 1000 by decide⟩
  · exact ⟨chk_bad (n := 17) rfl (by decide) (fits_f (show fitsD (rowOf 17).1 ⟨17, 0, 4, 4, 0, []⟩ = false by decide)), show 0 ≤ 0 by decide, show 0 ≤ 1000 by decide⟩
  · exact ⟨chk_bad (n := 23) rfl (by decide) (fits_f (show fitsD (rowOf 23).1 ⟨23, 0, 0, 16, 0, []⟩ = false by decide)), show 0 ≤ 0 by decide, show 0 ≤ 1000 by decide⟩
  · exact ⟨chk_bad (n := 11) rfl (by decide) (fits_f (show fitsD (rowOf 11).1 ⟨11, 0, 0, 0, 0, []⟩ = false by decide)), show 0 ≤ 0 by decide, show 0 ≤ 1000 by decide⟩
  · exact ⟨chk_bad (n := 11) rfl (by decide) (fits_f (show fitsD (rowOf 11).1 ⟨11, 0, 0, 0, 0, [1, 2]⟩ = false by decide)), show 2 ≤ 2 by decide, show 2 ≤ 1000 by decide⟩
  · exact ⟨chk_bad (n := 12) rfl (by decide) (fits_f (show fitsD (rowOf 12).1 ⟨12, 0, 0, 0, 0, [128]⟩ = false by decide)), show 1 ≤ 1 by decide, show 1 ≤ 1000 by decide⟩
  · exact ⟨chk_bad (n := 18) rfl (by decide) (fits_f (show fitsD (rowOf 18).1 ⟨18, 0, 0, 8, 0, []⟩ = false by decide)), show 0 ≤ 0 by decide, show 0 ≤ 1000 by decide⟩
  · exact ⟨chk_bad (n := 19) rfl (by decide) (fits_f (show fitsD (rowOf 19).1 ⟨19, 0, 0, 0, 0, []⟩ = false by decide)), show 0 ≤ 0 by decide, show 0 ≤ 1000 by decide⟩
  · exact ⟨chk_bad (n := 19) rfl (by decide) (fits_f (show fitsD (rowOf 19).1 ⟨19, 0, 0, 0, 0, [0, 0, 0, 0, 0, 0, 0, 0, 0]⟩ = false by decide)), show 9 ≤ 9 by decide, show 9 ≤ 1000 by decide⟩
  · exact ⟨chk_bad (n := 20) rfl (by decide) (fits_f (show fitsD (rowOf 20).1 ⟨20, 0, 0, 0, 0, [1, 1]⟩ = false by decide)), show 2 ≤ 2 by decide, show 2 ≤ 1000 by decide⟩
  · exact ⟨chk_bad (n := 20) rfl (by decide) (fits_f (show fitsD (rowOf 20).1 ⟨20, 0, 0, 0, 0, [1]⟩ = false by decide)), show 1 ≤ 1 by decide, show 1 ≤ 1000 by decide⟩
  · exact ⟨chk_bad (n := 20) rfl (by decide) (fits_f (show fitsD (rowOf 20).1 ⟨20, 0, 0, 0, 1001, [0, 1]⟩ = false by decide)), show 2 ≤ 2 by decide, show 2 ≤ 1000 by decide⟩
  · exact ⟨chk_bad (n := 20) rfl (by decide) (fits_f (show fitsD (rowOf 20).1 ⟨20, 0, 64, 0, 0, [0, 1]⟩ = false by decide)), show 2 ≤ 2 by decide, show 2 ≤ 1000 by decide⟩
  · exact ⟨chk_bad (n := 21) rfl (by decide) (fits_f (show fitsD (rowOf 21).1 ⟨21, 0, 16, 0, 0, []⟩ = false by decide)), show 0 ≤ 0 by decide, show 0 ≤ 1000 by decide⟩
  · exact ⟨chk_bad (n := 21) rfl (by decide) (fits_f (show fitsD (rowOf 21).1 ⟨21, 0, 0, 0, 0, [3, 3]⟩ = false by decide)), show 2 ≤ 2 by decide, show 2 ≤ 1000 by decide⟩
  · exact ⟨chk_bad (n := 21) rfl (by decide) (fits_f (show fitsD (rowOf 21).1 ⟨21, 0, 0, 0, 0, [0, 1, 2, 3, 4, 5, 6, 7, 8]⟩ = false by decide)), show 9 ≤ 9 by decide, show 9 ≤ 1000 by decide⟩
  · exact ⟨chk_bad (n := 22) rfl (by decide) (fits_f (show fitsD (rowOf 22).1 ⟨22, 0, 0, 0, 1, []⟩ = false by decide)), show 0 ≤ 0 by decide, show 0 ≤ 1000 by decide⟩
  · exact ⟨chk_bad (n := 1) rfl (by decide) (fits_f (show fitsD (rowOf 1).1 ⟨1, 0, 1, 0, 0, []⟩ = false by decide)), show 0 ≤ 0 by decide, show 0 ≤ 1000 by decide⟩
theorem wk0 : ([.int .i64 1, .int .i64 2] : List Value) = ints [1, 2] := rfl
theorem wk1 : ([.int .i64 128] : List Value) = ints [128] := rfl
theorem wk2 : ([.int .i64 1, .int .i64 1] : List Value) = ints [1, 1] := rfl
theorem wk3 : ([.int .i64 1] : List Value) = ints [1] := rfl
theorem wk4 : ([.int .i64 0, .int .i64 1] : List Value) = ints [0, 1] := rfl
theorem wk5 : ([.int .i64 3, .int .i64 3] : List Value) = ints [3, 3] := rfl
theorem wk6 : ([.int .i64 0, .int .i64 1, .int .i64 2, .int .i64 3, .int .i64 4, .int .i64 5, .int .i64 6, .int .i64 7, .int .i64 8] : List Value) = ints [0, 1, 2, 3, 4, 5, 6, 7, 8] := rfl
theorem wb20 : bytesL (rowOf 1) ⟨1, (-9223372036854775808), 0, 0, 0, []⟩ = [1, 255, 255, 255, 255, 255, 255, 255, 255, 255, 1] := by simp [bytesL, rowOf, optL, encI, encU_lt, encU_ge, foldZ]
theorem wf20 : fitsP (rowOf 1).1 ⟨1, (-9223372036854775808), 0, 0, 0, []⟩ := fits_t (by decide)
theorem wb21 : bytesL (rowOf 21) ⟨21, 0, 0, 0, 0, []⟩ = [21, 0, 0] := by simp [bytesL, rowOf, optL, encI, encU_lt, encU_ge, foldZ]
theorem wf21 : fitsP (rowOf 21).1 ⟨21, 0, 0, 0, 0, []⟩ := fits_t (by decide)
theorem wb22 : bytesL (rowOf 19) ⟨19, 0, 0, 0, 0, [1, 1, 1]⟩ = [19, 0, 3, 1, 1, 1] := by simp [bytesL, rowOf, optL, encI, encU_lt, encU_ge, foldZ]
theorem wf22 : fitsP (rowOf 19).1 ⟨19, 0, 0, 0, 0, [1, 1, 1]⟩ := fits_t (by decide)
theorem wd22 : ([.int .i64 1, .int .i64 1, .int .i64 1] : List Value) = ints [1, 1, 1] := rfl
theorem cat_rows : ∀ ys : List YI, Cat (ys.map fun y => .agg (cellsI y).toArray) 6 (ys.flatMap cellsI) := fun ys => ⟨fun u hu => by
  obtain ⟨y, _, rfl⟩ := List.mem_map.1 hu
  rfl, by
  induction ys with
  | nil => rfl
  | cons y l ih =>
    simp only [List.map_cons, List.flatMap_cons, ih]
    rfl⟩
theorem rows9_cons {ys : List YI} {y : YI} {L : List HP} : Ent (Vw 1 (.slice y.2.1 y.1.l.length y.2.2) y.1.l.length (ints y.1.l) :: Rows9 ys :: L) (Rows9 (y :: ys) :: L) := fun F w hs => by
  refine (Sat.join (M := [Rows9 ys, Vw 1 (.slice y.2.1 y.1.l.length y.2.2) y.1.l.length (ints y.1.l)]) (L := F :: L) (hs.perm ?_) fun k hk => ?_).swap
  · exact (List.Perm.swap _ _ _).trans ((List.Perm.cons _ (List.Perm.swap _ _ _)).trans (List.Perm.swap _ _ _))
  obtain ⟨h1, h2⟩ := star_two (up_rows9 _) (up_vw _ _ _ _) hk
  intro z hz
  rcases List.mem_cons.1 hz with rfl | hz
  · exact h2
  · exact h1 z hz
theorem rows9_step {L M : List HP} {y : YI} {ys : List YI} [t : Tk (Vw 1 (.slice y.2.1 y.1.l.length y.2.2) y.1.l.length (ints y.1.l)) L M] (h : Ent L (Rows9 ys :: L)) : Ent L (Rows9 (y :: ys) :: L) :=
  h.trans ((Ent.dup (Vw 1 (.slice y.2.1 y.1.l.length y.2.2) y.1.l.length (ints y.1.l)) (L := Rows9 ys :: L)).trans rows9_cons)
section
variable {P : Program} {N : Nat} {rd : Option Nat} {E : Env} {D : List Deferred} {L : List HP} {Q : Post} {d : Option Nat} {ty : TypeId} {pos : String} {after : Array Edge} {g : Option (Nat × Bool)} {next : Env → List Deferred → List HP → Prop}
theorem JO_makeV (l : List Int) {x y : Operand} {t e k : Nat} [TU P t (.slice e)] [TI P e (.int .i64 0) 1 k] {ik jk : IntKind} (hl : l = List.replicate l.length 0) (hx : ev E x = some (.int ik (l.length : Int))) (hy : ev E y = some (.int jk (l.length : Int))) (hb : k * l.length ≤ 281474976710656) (hn : l.length ≤ maxLen) (hd : dok N d = true)
    (h : ∀ r, next (put E d (.slice (some ⟨r, 0, none⟩) l.length l.length)) D (Vw 1 (.slice (some ⟨r, 0, none⟩) l.length l.length) l.length (ints l) :: L)) : JO P N rd ⟨d, .makeSlice t x y, ty, pos, after, g⟩ E D L next Q := by
  refine JO_weak (next := fun E' D' L' => ∃ r, E' = put E d (.slice (some ⟨r, 0, none⟩) l.length l.length) ∧ D' = D ∧ L' = pt r (.cells (List.replicate l.length (.int .i64 0)).toArray e (0, 0)) :: L) (JO_make hx hy rfl hb hn hd (fun r => ⟨r, rfl, rfl, rfl⟩)) ?_
  rintro E' D' L' ⟨r, rfl, rfl, rfl⟩
  refine ⟨_, ?_, h r⟩
  have he : List.replicate l.length (Value.int .i64 0) = ints l := by conv => rhs; rw [hl]
                                                                      simp [ints]
  rw [he]
  exact (ent_own (sz := 1) (by simp [ints]) (Nat.le_refl _) hn (by simp [ints])).trans ent_freeze
end
attribute [local irreducible] callFunc Go.method J JL JO Ct JG JM JW JW1 JQ JQ0 JS CtD LeavesQ ints RdB WrB Er by8 Gl bytesL fitsP chkA Rows9 plainN
set_option maxRecDepth 8000 in
set_option maxHeartbeats 16000000 in
theorem insnKnown_c (te : TypeId) (fz : Nat × Nat) :
    Ct Tryd.prog 10 #[] [Gl te fz] (RetV (.bool true) []) := by
  have hw := works9_c te fz
  refine fn_ret (vs := []) Tryd.func10 rfl Tryd.ntmps10 (by simp) ?_
  refine J_heap vw0 ?_
  repeat (first | (first | refine J_region ?_ | refine JL_nil ?_ | refine J_seq ?_ | refine J_block ?_ | refine J_skip ?_ | refine J_label ?_ | refine J_condT rfl ?_ | refine J_condF rfl ?_ | refine J_exit ?_ | refine J_ret ?_) | (first | ((first | refine JL_step rfl ?_ | refine JL_take rfl rfl ?_); first | refine JO_buildA (cs := [.int .i64 0, .int .i64 2, .int .i64 3, .int .i64 4, .int .i64 5, .int .i64 6, .int .i64 7, .int .i64 8, .int .i64 13, .int .i64 24]) rfl rfl rfl ?_ | refine JO_storeW rfl rfl (by rfl) (by rfl) (by simp [Value.oneCell']) rfl ?_ | refine JO_move rfl rfl ?_ | refine JO_assign rfl rfl ?_ | refine JO_len rfl rfl ?_ | refine JO_lenS rfl rfl ?_ | refine JO_field0 rfl rfl ?_ | refine JO_field rfl rfl ?_ | refine JO_load rfl rfl ?_ | refine JO_loadW rfl (by rfl) rfl ?_ | refine JO_pickT rfl rfl rfl ?_ | refine JO_pickF rfl rfl rfl ?_ | refine JO_lss rfl rfl rfl ?_ | refine JO_leq rfl rfl rfl ?_ | refine JO_gtr rfl rfl rfl ?_ | refine JO_geq rfl rfl rfl ?_ | refine JO_eqI rfl rfl rfl ?_ | refine JO_neI rfl rfl rfl ?_ | refine JO_and rfl rfl rfl ?_ | refine JO_or rfl rfl rfl ?_ | refine JO_xor rfl rfl rfl ?_ | refine JO_andNot rfl rfl rfl ?_ | refine JO_conv rfl rfl ?_ | refine JO_eqNilS rfl rfl ?_ | refine JO_buildSlice rfl rfl rfl (by decide) rfl (fun r => ?_) | refine JO_notP rfl rfl ?_ | refine JO_not rfl rfl ?_ | refine JO_addN rfl rfl (by omega) rfl ?_ | refine JO_add rfl rfl (by omega) rfl ?_ | refine JO_sub rfl rfl (by omega) rfl ?_ | refine JO_extract rfl rfl rfl ?_ | refine JO_boxA rfl rfl (fun r => ?_) | refine JO_box1 rfl rfl rfl (fun r => ?_) | refine JO_allocA rfl (fun r => ?_) | refine JO_alloc1 (by rfl) rfl (fun r => ?_) | refine JO_makeFunc rfl rfl rfl ?_ | refine JO_makeIface (by simp) rfl rfl ?_ | refine JO_store rfl rfl (by first | rfl | assumption) rfl ?_ | refine JO_storeW rfl rfl (by rfl) (by rfl) (by first | decide | simp [Value.oneCell']) rfl ?_ | refine JO_index1 rfl rfl (by omega) rfl ?_ | refine JO_index rfl rfl (by omega) rfl ?_) | refine JL_pass rfl rfl rfl ?_ | refine JL_passN rfl rfl rfl ?_))
  revert r
  intro r0
  refine J_loop (β := { i : Nat // i ≤ 10 }) (fun i => [(1, ptr r0), (2, .int .i64 (i.1 : Int))]) (fun _ => []) (fun _ => [pt r0 (.cells #[.int .i64 0, .int .i64 2, .int .i64 3, .int .i64 4, .int .i64 5, .int .i64 6, .int .i64 7, .int .i64 8, .int .i64 13, .int .i64 24] 68 (0, 0)), Vw 1 (.slice none 0 0) 0 (ints []), Gl te fz]) (fun i => 10 - i.1) ⟨0, by simp⟩ ?_ rfl Ent.sel ?_
  · (repeat (first | exact sub_nil _ | refine sub_cons rfl ?_))
  rintro ⟨i, hi⟩
  dsimp only
  by_cases h10 : i < 10
  · obtain ⟨n, hn⟩ : ∃ n, plainN[i]? = some n := ⟨_, List.getElem?_eq_getElem (show i < plainN.length by rw [plain_len]; exact h10)⟩
    obtain ⟨h24, hf, hb, hc1, hc2⟩ := plain_ok (List.mem_of_getElem? hn)
    have hv : [Value.int .i64 0, Value.int .i64 2, Value.int .i64 3, Value.int .i64 4, Value.int .i64 5, Value.int .i64 6, Value.int .i64 7, Value.int .i64 8, Value.int .i64 13, Value.int .i64 24][0 + i * 1]? = some (.int .i64 (n : Int)) := by
      rw [plain_cells, Nat.zero_add, Nat.mul_one, List.getElem?_map, hn]
      rfl
    have s1 : Ct Tryd.prog 35 #[.agg (insC ⟨(n : Int), 0, 0, 0, 0, []⟩ (.slice none 0 0)).toArray, str [UInt8.ofNat n]] [Vw 1 (.slice none 0 0) 0 (ints [])] (RetV (.bool true) []) := isI_c ⟨(n : Int), 0, 0, 0, 0, []⟩ none 0 (by simp) (by simp) (by simp) (n := n) rfl h24 hf _ hb
    have s2 : Ct Tryd.prog 33 #[.agg (insC ⟨(n : Int), 0, 1, 0, 0, []⟩ (.slice none 0 0)).toArray] [Vw 1 (.slice none 0 0) 0 (ints [])] (RetV (.int .i64 2) []) := by
      have h := check_c ⟨(n : Int), 0, 1, 0, 0, []⟩ none 0 (by simp) (by simp)
      rw [hc1] at h
      exact h
    have s3 : ∀ r : Nat, Ct Tryd.prog 33 #[.agg (insC ⟨(n : Int), 0, 0, 0, 0, [0]⟩ (.slice (some ⟨r, 0, none⟩) 1 1)).toArray] [Vw 1 (.slice (some ⟨r, 0, none⟩) 1 1) 1 (ints [0])] (RetV (.int .i64 2) []) := fun r => by
      have h := check_c ⟨(n : Int), 0, 0, 0, 0, [0]⟩ (some ⟨r, 0, none⟩) 1 (by simp) (by simp)
      rw [hc2] at h
      exact h
    repeat (first | (first | refine J_region ?_ | refine JL_nil ?_ | refine J_seq ?_ | refine J_block ?_ | refine J_skip ?_ | refine J_label ?_ | refine J_condT rfl ?_ | refine J_condF rfl ?_ | refine J_exit ?_ | refine J_ret ?_) | (first | ((first | refine JL_step rfl ?_ | refine JL_take rfl rfl ?_); first | refine JO_q (by simp) (JQ_lssT rfl rfl (by omega)) rfl ?_ | refine JO_q (by simp) (JQ_lssF rfl rfl (by omega)) rfl ?_ | refine JO_q (by simp) (JQ_leqT rfl rfl (by omega)) rfl ?_ | refine JO_q (by simp) (JQ_leqF rfl rfl (by omega)) rfl ?_ | refine JO_q (by simp) (JQ_gtrT rfl rfl (by omega)) rfl ?_ | refine JO_q (by simp) (JQ_gtrF rfl rfl (by omega)) rfl ?_ | refine JO_q (by simp) (JQ_geqT rfl rfl (by omega)) rfl ?_ | refine JO_q (by simp) (JQ_geqF rfl rfl (by omega)) rfl ?_ | refine JO_q (by simp) (JQ_eqT rfl rfl (by omega)) rfl ?_ | refine JO_q (by simp) (JQ_eqF rfl rfl (by omega)) rfl ?_ | refine JO_q (by simp) (JQ_neT rfl rfl (by omega)) rfl ?_ | refine JO_q (by simp) (JQ_neF rfl rfl (by omega)) rfl ?_ | refine JO_move rfl rfl ?_ | refine JO_assign rfl rfl ?_ | refine JO_len rfl rfl ?_ | refine JO_lenS rfl rfl ?_ | refine JO_field0 rfl rfl ?_ | refine JO_field rfl rfl ?_ | refine JO_load rfl rfl ?_ | refine JO_loadW rfl (by rfl) rfl ?_ | refine JO_pickT rfl rfl rfl ?_ | refine JO_pickF rfl rfl rfl ?_ | refine JO_lss rfl rfl rfl ?_ | refine JO_leq rfl rfl rfl ?_ | refine JO_gtr rfl rfl rfl ?_ | refine JO_geq rfl rfl rfl ?_ | refine JO_eqI rfl rfl rfl ?_ | refine JO_neI rfl rfl rfl ?_ | refine JO_and rfl rfl rfl ?_ | refine JO_or rfl rfl rfl ?_ | refine JO_xor rfl rfl rfl ?_ | refine JO_andNot rfl rfl rfl ?_ | refine JO_conv rfl rfl ?_ | refine JO_eqNilS rfl rfl ?_ | refine JO_buildSlice rfl rfl rfl (by decide) rfl (fun r => ?_) | refine JO_notP rfl rfl ?_ | refine JO_not rfl rfl ?_ | refine JO_addN rfl rfl (by omega) rfl ?_ | refine JO_add rfl rfl (by omega) rfl ?_ | refine JO_sub rfl rfl (by omega) rfl ?_ | refine JO_extract rfl rfl rfl ?_ | refine JO_boxA rfl rfl (fun r => ?_) | refine JO_box1 rfl rfl rfl (fun r => ?_) | refine JO_allocA rfl (fun r => ?_) | refine JO_alloc1 (by rfl) rfl (fun r => ?_) | refine JO_makeFunc rfl rfl rfl ?_ | refine JO_makeIface (by simp) rfl rfl ?_ | refine JO_store rfl rfl (by first | rfl | assumption) rfl ?_ | refine JO_storeW rfl rfl (by rfl) (by rfl) (by first | decide | simp [Value.oneCell']) rfl ?_ | refine JO_index1 rfl rfl (by omega) rfl ?_ | refine JO_index rfl rfl (by omega) rfl ?_) | refine JL_pass rfl rfl rfl ?_ | refine JL_passN rfl rfl rfl ?_))
    refine J_regionW none [pt r0 (.cells #[.int .i64 0, .int .i64 2, .int .i64 3, .int .i64 4, .int .i64 5, .int .i64 6, .int .i64 7, .int .i64 8, .int .i64 13, .int .i64 24] 68 (0, 0)), Vw 1 (.slice none 0 0) 0 (ints []), Gl te fz] Ent.sel ?_
    repeat' (first | refine JW_fin rfl ?_ | refine JW_n rfl rfl (by kernel_rfl) (by kernel_rfl) (by kernel_rfl) (by kernel_rfl) rfl (by first | exact JQ_indexPA rfl rfl h10 | exact JQ_load rfl (lds_block hv) | exact JQ_conv8 (a := n) rfl | exact JQ_build (cs := insC ⟨(n : Int), 0, 0, 0, 0, []⟩ (.slice none 0 0)) rfl rfl | exact JQ_build (cs := insC ⟨(n : Int), 0, 1, 0, 0, []⟩ (.slice none 0 0)) rfl rfl | exact JQ_build (cs := insC ⟨(n : Int), 0, 0, 0, 0, [0]⟩ (.slice (some ⟨_, 0, none⟩) 1 1)) rfl rfl | exact JQ_neI0 rfl rfl | exact JQ_nilCheck rfl | exact JQ_lenB rfl | exact JQ_move rfl | exact JQ_assign rfl | exact JQ_loadB rfl | exact JQ_field0 rfl | exact JQ_field rfl | exact JQ_index1 rfl rfl (by omega) | exact JQ_index rfl rfl (by omega) | exact JQ_load rfl (by assumption) | exact JQ_load rfl (lds_vw1 (by omega) (by assumption)) | exact JQ_pickT rfl rfl | exact JQ_pickF rfl rfl | exact JQ_neI rfl rfl | exact JQ_eqI rfl rfl | exact JQ_lss rfl rfl | exact JQ_leq rfl rfl | exact JQ_gtr rfl rfl | exact JQ_geq rfl rfl | exact JQ_notP rfl | exact JQ_not rfl | exact JQ_sub rfl rfl (by omega) | exact JQ_add rfl rfl (by omega) | exact JQ_len rfl) ?_ | refine JW_0 rfl rfl (by kernel_rfl) (by kernel_rfl) (by kernel_rfl) (by kernel_rfl) rfl (by first | exact JQ0_move rfl | exact JQ0_assign rfl | exact JQ0_nilCheck rfl | exact JQ0_field0 rfl | exact JQ0_field rfl | exact JQ0_add rfl rfl (by omega)) ?_ | refine JW_p rfl rfl (by kernel_rfl) (by kernel_rfl) (by kernel_rfl) (by kernel_rfl) rfl ?_ | refine JW_only rfl ?_ | refine JW_two rfl ?_ ?_ | refine JW1_jo rfl rfl (JO_buildV [0] rfl rfl rfl (show ([.int .i64 0] : List Value) = ints [0] by unfold ints; rfl) rfl (by decide) rfl (fun r => ⟨by first | exact (fun _ => Ent.sel) | exact (fun h => absurd h (by decide)), ?_⟩)) | refine JW1_jo rfl rfl (JO_buildSlice rfl rfl rfl (by decide) rfl (fun r => ⟨by first | exact (fun _ => Ent.sel) | exact (fun h => absurd h (by decide)), ?_⟩)) | refine JW1_jo rfl rfl (JO_q (by simp) (JQ_strB (bs := [UInt8.ofNat n]) rfl rfl by8_ofNat) rfl ⟨by first | exact (fun _ => Ent.sel) | exact (fun h => absurd h (by decide)), ?_⟩) | refine JW1_jo rfl rfl (JO_callVP rfl s1 rfl ⟨by first | exact (fun _ => Ent.sel) | exact (fun h => absurd h (by decide)), ?_⟩) | refine JW1_jo rfl rfl (JO_callVP rfl s2 rfl ⟨by first | exact (fun _ => Ent.sel) | exact (fun h => absurd h (by decide)), ?_⟩) | refine JW1_jo rfl rfl (JO_callVP rfl (s3 _) rfl ⟨by first | exact (fun _ => Ent.sel) | exact (fun h => absurd h (by decide)), ?_⟩) | refine JW1_jo rfl rfl (JO_assign rfl rfl ⟨by first | exact (fun _ => Ent.sel) | exact (fun h => absurd h (by decide)), ?_⟩) | refine JW1_jo rfl rfl (JO_store rfl rfl (by first | rfl | assumption) rfl ⟨by first | exact (fun _ => Ent.sel) | exact (fun h => absurd h (by decide)), ?_⟩) | refine JW1_jo rfl rfl (JO_allocA rfl (fun r => ⟨by first | exact (fun _ => Ent.sel) | exact (fun h => absurd h (by decide)), ?_⟩)) | refine JW1_jo rfl rfl (JO_alloc1 (by rfl) rfl (fun r => ⟨by first | exact (fun _ => Ent.sel) | exact (fun h => absurd h (by decide)), ?_⟩)))
    repeat (first | (first | refine J_region ?_ | refine JL_nil ?_ | refine J_seq ?_ | refine J_block ?_ | refine J_skip ?_ | refine J_label ?_ | refine J_condT rfl ?_ | refine J_condF rfl ?_ | refine J_exit ?_ | refine J_ret ?_) | (first | ((first | refine JL_step rfl ?_ | refine JL_take rfl rfl ?_); first | refine JO_addN (b := 1) rfl rfl (by omega) rfl ?_ | refine JO_move rfl rfl ?_ | refine JO_assign rfl rfl ?_ | refine JO_len rfl rfl ?_ | refine JO_lenS rfl rfl ?_ | refine JO_field0 rfl rfl ?_ | refine JO_field rfl rfl ?_ | refine JO_load rfl rfl ?_ | refine JO_loadW rfl (by rfl) rfl ?_ | refine JO_pickT rfl rfl rfl ?_ | refine JO_pickF rfl rfl rfl ?_ | refine JO_lss rfl rfl rfl ?_ | refine JO_leq rfl rfl rfl ?_ | refine JO_gtr rfl rfl rfl ?_ | refine JO_geq rfl rfl rfl ?_ | refine JO_eqI rfl rfl rfl ?_ | refine JO_neI rfl rfl rfl ?_ | refine JO_and rfl rfl rfl ?_ | refine JO_or rfl rfl rfl ?_ | refine JO_xor rfl rfl rfl ?_ | refine JO_andNot rfl rfl rfl ?_ | refine JO_conv rfl rfl ?_ | refine JO_eqNilS rfl rfl ?_ | refine JO_buildSlice rfl rfl rfl (by decide) rfl (fun r => ?_) | refine JO_notP rfl rfl ?_ | refine JO_not rfl rfl ?_ | refine JO_addN rfl rfl (by omega) rfl ?_ | refine JO_add rfl rfl (by omega) rfl ?_ | refine JO_sub rfl rfl (by omega) rfl ?_ | refine JO_extract rfl rfl rfl ?_ | refine JO_boxA rfl rfl (fun r => ?_) | refine JO_box1 rfl rfl rfl (fun r => ?_) | refine JO_allocA rfl (fun r => ?_) | refine JO_alloc1 (by rfl) rfl (fun r => ?_) | refine JO_makeFunc rfl rfl rfl ?_ | refine JO_makeIface (by simp) rfl rfl ?_ | refine JO_store rfl rfl (by first | rfl | assumption) rfl ?_ | refine JO_storeW rfl rfl (by rfl) (by rfl) (by first | decide | simp [Value.oneCell']) rfl ?_ | refine JO_index1 rfl rfl (by omega) rfl ?_ | refine JO_index rfl rfl (by omega) rfl ?_) | refine JL_pass rfl rfl rfl ?_ | refine JL_passN rfl rfl rfl ?_))
    exact ⟨⟨i + 1, by omega⟩, by simp only; omega, by (repeat (first | exact sub_nil _ | refine sub_cons rfl ?_)), rfl, Ent.sel⟩
  obtain rfl : i = 10 := by omega
  repeat (first | (first | refine J_region ?_ | refine JL_nil ?_ | refine J_seq ?_ | refine J_block ?_ | refine J_skip ?_ | refine J_label ?_ | refine J_condT rfl ?_ | refine J_condF rfl ?_ | refine J_exit ?_ | refine J_ret ?_) | (first | ((first | refine JL_step rfl ?_ | refine JL_take rfl rfl ?_); first | refine JO_q (by simp) (JQ_lssT rfl rfl (by omega)) rfl ?_ | refine JO_q (by simp) (JQ_lssF rfl rfl (by omega)) rfl ?_ | refine JO_q (by simp) (JQ_leqT rfl rfl (by omega)) rfl ?_ | refine JO_q (by simp) (JQ_leqF rfl rfl (by omega)) rfl ?_ | refine JO_q (by simp) (JQ_gtrT rfl rfl (by omega)) rfl ?_ | refine JO_q (by simp) (JQ_gtrF rfl rfl (by omega)) rfl ?_ | refine JO_q (by simp) (JQ_geqT rfl rfl (by omega)) rfl ?_ | refine JO_q (by simp) (JQ_geqF rfl rfl (by omega)) rfl ?_ | refine JO_q (by simp) (JQ_eqT rfl rfl (by omega)) rfl ?_ | refine JO_q (by simp) (JQ_eqF rfl rfl (by omega)) rfl ?_ | refine JO_q (by simp) (JQ_neT rfl rfl (by omega)) rfl ?_ | refine JO_q (by simp) (JQ_neF rfl rfl (by omega)) rfl ?_ | refine JO_buildV [1, 2] rfl rfl rfl wk0 rfl (by decide) rfl (fun r => ?_) | refine JO_buildV [128] rfl rfl rfl wk1 rfl (by decide) rfl (fun r => ?_) | refine JO_buildV [1, 1] rfl rfl rfl wk2 rfl (by decide) rfl (fun r => ?_) | refine JO_buildV [1] rfl rfl rfl wk3 rfl (by decide) rfl (fun r => ?_) | refine JO_buildV [0, 1] rfl rfl rfl wk4 rfl (by decide) rfl (fun r => ?_) | refine JO_buildV [3, 3] rfl rfl rfl wk5 rfl (by decide) rfl (fun r => ?_) | refine JO_buildV [0, 1, 2, 3, 4, 5, 6, 7, 8] rfl rfl rfl wk6 rfl (by decide) rfl (fun r => ?_) | refine JO_makeV [0, 0, 0, 0, 0, 0, 0, 0, 0] rfl rfl rfl (by decide) (by decide) rfl (fun r => ?_) | refine JO_build (cs := insC ⟨0, 1, 0, 0, 0, []⟩ (.slice none 0 0)) rfl rfl rfl ?_ | refine JO_build (cs := insC ⟨9, 0, 16, 0, 0, []⟩ (.slice none 0 0)) rfl rfl rfl ?_ | refine JO_build (cs := insC ⟨10, 0, (-1), 0, 0, []⟩ (.slice none 0 0)) rfl rfl rfl ?_ | refine JO_build (cs := insC ⟨14, 0, 0, 1, 0, []⟩ (.slice none 0 0)) rfl rfl rfl ?_ | refine JO_build (cs := insC ⟨17, 0, 4, 4, 0, []⟩ (.slice none 0 0)) rfl rfl rfl ?_ | refine JO_build (cs := insC ⟨23, 0, 0, 16, 0, []⟩ (.slice none 0 0)) rfl rfl rfl ?_ | refine JO_build (cs := insC ⟨11, 0, 0, 0, 0, []⟩ (.slice none 0 0)) rfl rfl rfl ?_ | refine JO_build (cs := insC ⟨11, 0, 0, 0, 0, [1, 2]⟩ (.slice (some ⟨_, 0, none⟩) 2 2)) rfl rfl rfl ?_ | refine JO_build (cs := insC ⟨12, 0, 0, 0, 0, [128]⟩ (.slice (some ⟨_, 0, none⟩) 1 1)) rfl rfl rfl ?_ | refine JO_build (cs := insC ⟨18, 0, 0, 8, 0, []⟩ (.slice none 0 0)) rfl rfl rfl ?_ | refine JO_build (cs := insC ⟨19, 0, 0, 0, 0, []⟩ (.slice none 0 0)) rfl rfl rfl ?_ | refine JO_build (cs := insC ⟨19, 0, 0, 0, 0, [0, 0, 0, 0, 0, 0, 0, 0, 0]⟩ (.slice (some ⟨_, 0, none⟩) 9 9)) rfl rfl rfl ?_ | refine JO_build (cs := insC ⟨20, 0, 0, 0, 0, [1, 1]⟩ (.slice (some ⟨_, 0, none⟩) 2 2)) rfl rfl rfl ?_ | refine JO_build (cs := insC ⟨20, 0, 0, 0, 0, [1]⟩ (.slice (some ⟨_, 0, none⟩) 1 1)) rfl rfl rfl ?_ | refine JO_build (cs := insC ⟨20, 0, 0, 0, 1001, [0, 1]⟩ (.slice (some ⟨_, 0, none⟩) 2 2)) rfl rfl rfl ?_ | refine JO_build (cs := insC ⟨20, 0, 64, 0, 0, [0, 1]⟩ (.slice (some ⟨_, 0, none⟩) 2 2)) rfl rfl rfl ?_ | refine JO_build (cs := insC ⟨21, 0, 16, 0, 0, []⟩ (.slice none 0 0)) rfl rfl rfl ?_ | refine JO_build (cs := insC ⟨21, 0, 0, 0, 0, [3, 3]⟩ (.slice (some ⟨_, 0, none⟩) 2 2)) rfl rfl rfl ?_ | refine JO_build (cs := insC ⟨21, 0, 0, 0, 0, [0, 1, 2, 3, 4, 5, 6, 7, 8]⟩ (.slice (some ⟨_, 0, none⟩) 9 9)) rfl rfl rfl ?_ | refine JO_build (cs := insC ⟨22, 0, 0, 0, 1, []⟩ (.slice none 0 0)) rfl rfl rfl ?_ | refine JO_build (cs := insC ⟨1, 0, 1, 0, 0, []⟩ (.slice none 0 0)) rfl rfl rfl ?_ | refine JO_move rfl rfl ?_ | refine JO_assign rfl rfl ?_ | refine JO_len rfl rfl ?_ | refine JO_lenS rfl rfl ?_ | refine JO_field0 rfl rfl ?_ | refine JO_field rfl rfl ?_ | refine JO_load rfl rfl ?_ | refine JO_loadW rfl (by rfl) rfl ?_ | refine JO_pickT rfl rfl rfl ?_ | refine JO_pickF rfl rfl rfl ?_ | refine JO_lss rfl rfl rfl ?_ | refine JO_leq rfl rfl rfl ?_ | refine JO_gtr rfl rfl rfl ?_ | refine JO_geq rfl rfl rfl ?_ | refine JO_eqI rfl rfl rfl ?_ | refine JO_neI rfl rfl rfl ?_ | refine JO_and rfl rfl rfl ?_ | refine JO_or rfl rfl rfl ?_ | refine JO_xor rfl rfl rfl ?_ | refine JO_andNot rfl rfl rfl ?_ | refine JO_conv rfl rfl ?_ | refine JO_eqNilS rfl rfl ?_ | refine JO_buildSlice rfl rfl rfl (by decide) rfl (fun r => ?_) | refine JO_notP rfl rfl ?_ | refine JO_not rfl rfl ?_ | refine JO_addN rfl rfl (by omega) rfl ?_ | refine JO_add rfl rfl (by omega) rfl ?_ | refine JO_sub rfl rfl (by omega) rfl ?_ | refine JO_extract rfl rfl rfl ?_ | refine JO_boxA rfl rfl (fun r => ?_) | refine JO_box1 rfl rfl rfl (fun r => ?_) | refine JO_allocA rfl (fun r => ?_) | refine JO_alloc1 (by rfl) rfl (fun r => ?_) | refine JO_makeFunc rfl rfl rfl ?_ | refine JO_makeIface (by simp) rfl rfl ?_ | refine JO_store rfl rfl (by first | rfl | assumption) rfl ?_ | refine JO_storeW rfl rfl (by rfl) (by rfl) (by first | decide | simp [Value.oneCell']) rfl ?_ | refine JO_index1 rfl rfl (by omega) rfl ?_ | refine JO_index rfl rfl (by omega) rfl ?_) | refine JL_pass rfl rfl rfl ?_ | refine JL_passN rfl rfl rfl ?_))
  rename_i r1 r2 r3 r4 r5 r6 r7 r8
  revert r
  intro r9
  refine JL_step rfl (JO_buildSlice (n := 6) (vs := (bads r1 r2 r3 r4 r5 r6 r7 r8 r9).map fun y => .agg (cellsI y).toArray) (cs := (bads r1 r2 r3 r4 r5 r6 r7 r8 r9).flatMap cellsI) rfl rfl (hc := cat_rows _) rfl (by decide) rfl (fun r10 => ?_))
  refine JL_heap (ent_own (sz := 6) (n := 21) (cap := 21) rfl (by decide) (by decide) rfl) ?_
  refine JL_heap ent_freeze ?_
  refine JL_heap (show Ent _ (Vw 1 (.slice none ([] : List Int).length 0) ([] : List Int).length (ints []) :: _) from vw0) ?_
  refine JL_heap (show Ent _ (Rows9 (bads r1 r2 r3 r4 r5 r6 r7 r8 r9) :: _) from rows9_step (rows9_step (rows9_step (rows9_step (rows9_step (rows9_step (rows9_step (rows9_step (rows9_step (rows9_step (rows9_step (rows9_step (rows9_step (rows9_step (rows9_step (rows9_step (rows9_step (rows9_step (rows9_step (rows9_step (rows9_step (rows9_nil)))))))))))))))))))))) ?_
  refine JL_heap (L' := [Vw 6 (.slice (some ⟨r10, 0, none⟩) 21 21) 21 ((bads r1 r2 r3 r4 r5 r6 r7 r8 r9).flatMap cellsI), Rows9 (bads r1 r2 r3 r4 r5 r6 r7 r8 r9), Vw 1 (.slice none 0 0) 0 (ints []), Gl te fz]) Ent.sel ?_
  have hok := bads_ok (r1 := r1) (r2 := r2) (r3 := r3) (r4 := r4) (r5 := r5) (r6 := r6) (r7 := r7) (r8 := r8) (r9 := r9)
  have hlen : (bads r1 r2 r3 r4 r5 r6 r7 r8 r9).length = 21 := rfl
  generalize bads r1 r2 r3 r4 r5 r6 r7 r8 r9 = B at *
  repeat (first | (first | refine J_region ?_ | refine JL_nil ?_ | refine J_seq ?_ | refine J_block ?_ | refine J_skip ?_ | refine J_label ?_ | refine J_condT rfl ?_ | refine J_condF rfl ?_ | refine J_exit ?_ | refine J_ret ?_) | (first | ((first | refine JL_step rfl ?_ | refine JL_take rfl rfl ?_); first | refine JO_move rfl rfl ?_ | refine JO_assign rfl rfl ?_ | refine JO_len rfl rfl ?_ | refine JO_lenS rfl rfl ?_ | refine JO_field0 rfl rfl ?_ | refine JO_field rfl rfl ?_ | refine JO_load rfl rfl ?_ | refine JO_loadW rfl (by rfl) rfl ?_ | refine JO_pickT rfl rfl rfl ?_ | refine JO_pickF rfl rfl rfl ?_ | refine JO_lss rfl rfl rfl ?_ | refine JO_leq rfl rfl rfl ?_ | refine JO_gtr rfl rfl rfl ?_ | refine JO_geq rfl rfl rfl ?_ | refine JO_eqI rfl rfl rfl ?_ | refine JO_neI rfl rfl rfl ?_ | refine JO_and rfl rfl rfl ?_ | refine JO_or rfl rfl rfl ?_ | refine JO_xor rfl rfl rfl ?_ | refine JO_andNot rfl rfl rfl ?_ | refine JO_conv rfl rfl ?_ | refine JO_eqNilS rfl rfl ?_ | refine JO_buildSlice rfl rfl rfl (by decide) rfl (fun r => ?_) | refine JO_notP rfl rfl ?_ | refine JO_not rfl rfl ?_ | refine JO_addN rfl rfl (by omega) rfl ?_ | refine JO_add rfl rfl (by omega) rfl ?_ | refine JO_sub rfl rfl (by omega) rfl ?_ | refine JO_extract rfl rfl rfl ?_ | refine JO_boxA rfl rfl (fun r => ?_) | refine JO_box1 rfl rfl rfl (fun r => ?_) | refine JO_allocA rfl (fun r => ?_) | refine JO_alloc1 (by rfl) rfl (fun r => ?_) | refine JO_makeFunc rfl rfl rfl ?_ | refine JO_makeIface (by simp) rfl rfl ?_ | refine JO_store rfl rfl (by first | rfl | assumption) rfl ?_ | refine JO_storeW rfl rfl (by rfl) (by rfl) (by first | decide | simp [Value.oneCell']) rfl ?_ | refine JO_index1 rfl rfl (by omega) rfl ?_ | refine JO_index rfl rfl (by omega) rfl ?_) | refine JL_pass rfl rfl rfl ?_ | refine JL_passN rfl rfl rfl ?_))
  refine J_loop (β := { i : Nat // i ≤ 21 }) (fun i => [(3, .slice (some ⟨r10, 0, none⟩) 21 21), (4, .int .i64 (i.1 : Int))]) (fun _ => []) (fun _ => [Vw 6 (.slice (some ⟨r10, 0, none⟩) 21 21) 21 (B.flatMap cellsI), Rows9 B, Vw 1 (.slice none 0 0) 0 (ints []), Gl te fz]) (fun i => 21 - i.1) ⟨0, by simp⟩ ?_ rfl Ent.sel ?_
  · (repeat (first | exact sub_nil _ | refine sub_cons rfl ?_))
  rintro ⟨i, hi⟩
  dsimp only
  by_cases h21 : i < 21
  · obtain ⟨z, hz⟩ : ∃ z, B[i]? = some z := ⟨_, List.getElem?_eq_getElem (show i < B.length by omega)⟩
    have hzm : z ∈ B := List.mem_of_getElem? hz
    obtain ⟨z1, z2, z3⟩ := hok z hzm
    have hck := check_c z.1 z.2.1 z.2.2 z2 (by omega)
    have hbb := bytes_bad z.1 z.2.1 z.2.2 z2 (by omega) (by omega)
    rw [z1] at hck
    refine J_front (Rows9 B) ?_
    refine J_open (pers_rows9 B) (rows9_at hzm) fun _ => ?_
    simp only [List.cons_append, List.nil_append]
    repeat (first | (first | refine J_region ?_ | refine JL_nil ?_ | refine J_seq ?_ | refine J_block ?_ | refine J_skip ?_ | refine J_label ?_ | refine J_condT rfl ?_ | refine J_condF rfl ?_ | refine J_exit ?_ | refine J_ret ?_) | (first | ((first | refine JL_step rfl ?_ | refine JL_take rfl rfl ?_); first | refine JO_q (by simp) (JQ_lssT rfl rfl (by omega)) rfl ?_ | refine JO_q (by simp) (JQ_lssF rfl rfl (by omega)) rfl ?_ | refine JO_q (by simp) (JQ_leqT rfl rfl (by omega)) rfl ?_ | refine JO_q (by simp) (JQ_leqF rfl rfl (by omega)) rfl ?_ | refine JO_q (by simp) (JQ_gtrT rfl rfl (by omega)) rfl ?_ | refine JO_q (by simp) (JQ_gtrF rfl rfl (by omega)) rfl ?_ | refine JO_q (by simp) (JQ_geqT rfl rfl (by omega)) rfl ?_ | refine JO_q (by simp) (JQ_geqF rfl rfl (by omega)) rfl ?_ | refine JO_q (by simp) (JQ_eqT rfl rfl (by omega)) rfl ?_ | refine JO_q (by simp) (JQ_eqF rfl rfl (by omega)) rfl ?_ | refine JO_q (by simp) (JQ_neT rfl rfl (by omega)) rfl ?_ | refine JO_q (by simp) (JQ_neF rfl rfl (by omega)) rfl ?_ | refine JO_indexV rfl rfl h21 rfl (fun b o hl => ?_) | refine JO_loadAL (cellsI z) rfl (fun j u hu => hl j u (by have := (List.getElem?_eq_some_iff.1 hu).1; exact this) (by rw [flat_get cellsI_len _ _ _ _ (by have := (List.getElem?_eq_some_iff.1 hu).1; exact this) hz]; exact hu)) rfl rfl ?_ | refine JO_q (by simp) (JQ_neI0 rfl rfl) rfl ?_ | refine JO_q (by simp) (JQ_neS0 rfl rfl) rfl ?_ | refine JO_addN (b := 1) rfl rfl (by omega) rfl ?_ | refine JO_move rfl rfl ?_ | refine JO_assign rfl rfl ?_ | refine JO_len rfl rfl ?_ | refine JO_lenS rfl rfl ?_ | refine JO_field0 rfl rfl ?_ | refine JO_field rfl rfl ?_ | refine JO_load rfl rfl ?_ | refine JO_loadW rfl (by rfl) rfl ?_ | refine JO_pickT rfl rfl rfl ?_ | refine JO_pickF rfl rfl rfl ?_ | refine JO_lss rfl rfl rfl ?_ | refine JO_leq rfl rfl rfl ?_ | refine JO_gtr rfl rfl rfl ?_ | refine JO_geq rfl rfl rfl ?_ | refine JO_eqI rfl rfl rfl ?_ | refine JO_neI rfl rfl rfl ?_ | refine JO_and rfl rfl rfl ?_ | refine JO_or rfl rfl rfl ?_ | refine JO_xor rfl rfl rfl ?_ | refine JO_andNot rfl rfl rfl ?_ | refine JO_conv rfl rfl ?_ | refine JO_eqNilS rfl rfl ?_ | refine JO_buildSlice rfl rfl rfl (by decide) rfl (fun r => ?_) | refine JO_notP rfl rfl ?_ | refine JO_not rfl rfl ?_ | refine JO_addN rfl rfl (by omega) rfl ?_ | refine JO_add rfl rfl (by omega) rfl ?_ | refine JO_sub rfl rfl (by omega) rfl ?_ | refine JO_extract rfl rfl rfl ?_ | refine JO_boxA rfl rfl (fun r => ?_) | refine JO_box1 rfl rfl rfl (fun r => ?_) | refine JO_allocA rfl (fun r => ?_) | refine JO_alloc1 (by rfl) rfl (fun r => ?_) | refine JO_makeFunc rfl rfl rfl ?_ | refine JO_makeIface (by simp) rfl rfl ?_ | refine JO_store rfl rfl (by first | rfl | assumption) rfl ?_ | refine JO_storeW rfl rfl (by rfl) (by rfl) (by first | decide | simp [Value.oneCell']) rfl ?_ | refine JO_index1 rfl rfl (by omega) rfl ?_ | refine JO_index rfl rfl (by omega) rfl ?_ | refine JO_callVP rfl (hck) rfl ?_ | refine JO_callV' rfl (hck) rfl ?_ | refine JO_callVP rfl (hbb) rfl ?_ | refine JO_callV' rfl (hbb) rfl ?_) | refine JL_pass rfl rfl rfl ?_ | refine JL_passN rfl rfl rfl ?_))
    exact ⟨⟨i + 1, by omega⟩, by simp only; omega, by (repeat (first | exact sub_nil _ | refine sub_cons rfl ?_)), rfl, Ent.sel⟩
  obtain rfl : i = 21 := by omega
  repeat (first | (first | refine J_region ?_ | refine JL_nil ?_ | refine J_seq ?_ | refine J_block ?_ | refine J_skip ?_ | refine J_label ?_ | refine J_condT rfl ?_ | refine J_condF rfl ?_ | refine J_exit ?_ | refine J_ret ?_) | (first | ((first | refine JL_step rfl ?_ | refine JL_take rfl rfl ?_); first | refine JO_q (by simp) (JQ_lssT rfl rfl (by omega)) rfl ?_ | refine JO_q (by simp) (JQ_lssF rfl rfl (by omega)) rfl ?_ | refine JO_q (by simp) (JQ_leqT rfl rfl (by omega)) rfl ?_ | refine JO_q (by simp) (JQ_leqF rfl rfl (by omega)) rfl ?_ | refine JO_q (by simp) (JQ_gtrT rfl rfl (by omega)) rfl ?_ | refine JO_q (by simp) (JQ_gtrF rfl rfl (by omega)) rfl ?_ | refine JO_q (by simp) (JQ_geqT rfl rfl (by omega)) rfl ?_ | refine JO_q (by simp) (JQ_geqF rfl rfl (by omega)) rfl ?_ | refine JO_q (by simp) (JQ_eqT rfl rfl (by omega)) rfl ?_ | refine JO_q (by simp) (JQ_eqF rfl rfl (by omega)) rfl ?_ | refine JO_q (by simp) (JQ_neT rfl rfl (by omega)) rfl ?_ | refine JO_q (by simp) (JQ_neF rfl rfl (by omega)) rfl ?_ | refine JO_move rfl rfl ?_ | refine JO_assign rfl rfl ?_ | refine JO_len rfl rfl ?_ | refine JO_lenS rfl rfl ?_ | refine JO_field0 rfl rfl ?_ | refine JO_field rfl rfl ?_ | refine JO_load rfl rfl ?_ | refine JO_loadW rfl (by rfl) rfl ?_ | refine JO_pickT rfl rfl rfl ?_ | refine JO_pickF rfl rfl rfl ?_ | refine JO_lss rfl rfl rfl ?_ | refine JO_leq rfl rfl rfl ?_ | refine JO_gtr rfl rfl rfl ?_ | refine JO_geq rfl rfl rfl ?_ | refine JO_eqI rfl rfl rfl ?_ | refine JO_neI rfl rfl rfl ?_ | refine JO_and rfl rfl rfl ?_ | refine JO_or rfl rfl rfl ?_ | refine JO_xor rfl rfl rfl ?_ | refine JO_andNot rfl rfl rfl ?_ | refine JO_conv rfl rfl ?_ | refine JO_eqNilS rfl rfl ?_ | refine JO_buildSlice rfl rfl rfl (by decide) rfl (fun r => ?_) | refine JO_notP rfl rfl ?_ | refine JO_not rfl rfl ?_ | refine JO_addN rfl rfl (by omega) rfl ?_ | refine JO_add rfl rfl (by omega) rfl ?_ | refine JO_sub rfl rfl (by omega) rfl ?_ | refine JO_extract rfl rfl rfl ?_ | refine JO_boxA rfl rfl (fun r => ?_) | refine JO_box1 rfl rfl rfl (fun r => ?_) | refine JO_allocA rfl (fun r => ?_) | refine JO_alloc1 (by rfl) rfl (fun r => ?_) | refine JO_makeFunc rfl rfl rfl ?_ | refine JO_makeIface (by simp) rfl rfl ?_ | refine JO_store rfl rfl (by first | rfl | assumption) rfl ?_ | refine JO_storeW rfl rfl (by rfl) (by rfl) (by first | decide | simp [Value.oneCell']) rfl ?_ | refine JO_index1 rfl rfl (by omega) rfl ?_ | refine JO_index rfl rfl (by omega) rfl ?_) | refine JL_pass rfl rfl rfl ?_ | refine JL_passN rfl rfl rfl ?_))
  refine J_loop (β := { k : Nat // k ≤ 27 }) (fun k => [(5, .int .i64 ((min (k.1 - 15) 6 : Nat) : Int)), (6, .int .i64 ((k.1 : Int) - 1))]) (fun _ => []) (fun _ => [Vw 1 (.slice none 0 0) 0 (ints []), Gl te fz]) (fun k => 27 - k.1) ⟨0, by simp⟩ ?_ rfl Ent.sel ?_
  · exact sub_int rfl (by simp) (sub_int rfl (by simp) (sub_nil _))
  rintro ⟨k, hk⟩
  dsimp only
  by_cases h27 : k < 27
  · have hcm := comm_c ((k : Int) - 1)
    by_cases hcc : 15 ≤ k ∧ k ≤ 20
    · rw [commB_t (by omega)] at hcm
      repeat (first | (first | refine J_region ?_ | refine JL_nil ?_ | refine J_seq ?_ | refine J_block ?_ | refine J_skip ?_ | refine J_label ?_ | refine J_condT rfl ?_ | refine J_condF rfl ?_ | refine J_exit ?_ | refine J_ret ?_) | (first | ((first | refine JL_step rfl ?_ | refine JL_take rfl rfl ?_); first | refine JO_q (by simp) (JQ_lssT rfl rfl (by omega)) rfl ?_ | refine JO_q (by simp) (JQ_lssF rfl rfl (by omega)) rfl ?_ | refine JO_q (by simp) (JQ_leqT rfl rfl (by omega)) rfl ?_ | refine JO_q (by simp) (JQ_leqF rfl rfl (by omega)) rfl ?_ | refine JO_q (by simp) (JQ_gtrT rfl rfl (by omega)) rfl ?_ | refine JO_q (by simp) (JQ_gtrF rfl rfl (by omega)) rfl ?_ | refine JO_q (by simp) (JQ_geqT rfl rfl (by omega)) rfl ?_ | refine JO_q (by simp) (JQ_geqF rfl rfl (by omega)) rfl ?_ | refine JO_q (by simp) (JQ_eqT rfl rfl (by omega)) rfl ?_ | refine JO_q (by simp) (JQ_eqF rfl rfl (by omega)) rfl ?_ | refine JO_q (by simp) (JQ_neT rfl rfl (by omega)) rfl ?_ | refine JO_q (by simp) (JQ_neF rfl rfl (by omega)) rfl ?_ | refine JO_addN (b := 1) rfl rfl (by omega) rfl ?_ | refine JO_add rfl rfl (by omega) rfl ?_ | refine JO_move rfl rfl ?_ | refine JO_assign rfl rfl ?_ | refine JO_len rfl rfl ?_ | refine JO_lenS rfl rfl ?_ | refine JO_field0 rfl rfl ?_ | refine JO_field rfl rfl ?_ | refine JO_load rfl rfl ?_ | refine JO_loadW rfl (by rfl) rfl ?_ | refine JO_pickT rfl rfl rfl ?_ | refine JO_pickF rfl rfl rfl ?_ | refine JO_lss rfl rfl rfl ?_ | refine JO_leq rfl rfl rfl ?_ | refine JO_gtr rfl rfl rfl ?_ | refine JO_geq rfl rfl rfl ?_ | refine JO_eqI rfl rfl rfl ?_ | refine JO_neI rfl rfl rfl ?_ | refine JO_and rfl rfl rfl ?_ | refine JO_or rfl rfl rfl ?_ | refine JO_xor rfl rfl rfl ?_ | refine JO_andNot rfl rfl rfl ?_ | refine JO_conv rfl rfl ?_ | refine JO_eqNilS rfl rfl ?_ | refine JO_buildSlice rfl rfl rfl (by decide) rfl (fun r => ?_) | refine JO_notP rfl rfl ?_ | refine JO_not rfl rfl ?_ | refine JO_addN rfl rfl (by omega) rfl ?_ | refine JO_add rfl rfl (by omega) rfl ?_ | refine JO_sub rfl rfl (by omega) rfl ?_ | refine JO_extract rfl rfl rfl ?_ | refine JO_boxA rfl rfl (fun r => ?_) | refine JO_box1 rfl rfl rfl (fun r => ?_) | refine JO_allocA rfl (fun r => ?_) | refine JO_alloc1 (by rfl) rfl (fun r => ?_) | refine JO_makeFunc rfl rfl rfl ?_ | refine JO_makeIface (by simp) rfl rfl ?_ | refine JO_store rfl rfl (by first | rfl | assumption) rfl ?_ | refine JO_storeW rfl rfl (by rfl) (by rfl) (by first | decide | simp [Value.oneCell']) rfl ?_ | refine JO_index1 rfl rfl (by omega) rfl ?_ | refine JO_index rfl rfl (by omega) rfl ?_ | refine JO_callVP rfl (hcm) rfl ?_ | refine JO_callV' rfl (hcm) rfl ?_) | refine JL_pass rfl rfl rfl ?_ | refine JL_passN rfl rfl rfl ?_))
      exact ⟨⟨k + 1, by omega⟩, by simp only; omega, sub_int rfl (by simp only; omega) (sub_int rfl (by simp only; omega) (sub_nil _)), rfl, Ent.sel⟩
    · rw [commB_f (by omega)] at hcm
      repeat (first | (first | refine J_region ?_ | refine JL_nil ?_ | refine J_seq ?_ | refine J_block ?_ | refine J_skip ?_ | refine J_label ?_ | refine J_condT rfl ?_ | refine J_condF rfl ?_ | refine J_exit ?_ | refine J_ret ?_) | (first | ((first | refine JL_step rfl ?_ | refine JL_take rfl rfl ?_); first | refine JO_q (by simp) (JQ_lssT rfl rfl (by omega)) rfl ?_ | refine JO_q (by simp) (JQ_lssF rfl rfl (by omega)) rfl ?_ | refine JO_q (by simp) (JQ_leqT rfl rfl (by omega)) rfl ?_ | refine JO_q (by simp) (JQ_leqF rfl rfl (by omega)) rfl ?_ | refine JO_q (by simp) (JQ_gtrT rfl rfl (by omega)) rfl ?_ | refine JO_q (by simp) (JQ_gtrF rfl rfl (by omega)) rfl ?_ | refine JO_q (by simp) (JQ_geqT rfl rfl (by omega)) rfl ?_ | refine JO_q (by simp) (JQ_geqF rfl rfl (by omega)) rfl ?_ | refine JO_q (by simp) (JQ_eqT rfl rfl (by omega)) rfl ?_ | refine JO_q (by simp) (JQ_eqF rfl rfl (by omega)) rfl ?_ | refine JO_q (by simp) (JQ_neT rfl rfl (by omega)) rfl ?_ | refine JO_q (by simp) (JQ_neF rfl rfl (by omega)) rfl ?_ | refine JO_add rfl rfl (by omega) rfl ?_ | refine JO_move rfl rfl ?_ | refine JO_assign rfl rfl ?_ | refine JO_len rfl rfl ?_ | refine JO_lenS rfl rfl ?_ | refine JO_field0 rfl rfl ?_ | refine JO_field rfl rfl ?_ | refine JO_load rfl rfl ?_ | refine JO_loadW rfl (by rfl) rfl ?_ | refine JO_pickT rfl rfl rfl ?_ | refine JO_pickF rfl rfl rfl ?_ | refine JO_lss rfl rfl rfl ?_ | refine JO_leq rfl rfl rfl ?_ | refine JO_gtr rfl rfl rfl ?_ | refine JO_geq rfl rfl rfl ?_ | refine JO_eqI rfl rfl rfl ?_ | refine JO_neI rfl rfl rfl ?_ | refine JO_and rfl rfl rfl ?_ | refine JO_or rfl rfl rfl ?_ | refine JO_xor rfl rfl rfl ?_ | refine JO_andNot rfl rfl rfl ?_ | refine JO_conv rfl rfl ?_ | refine JO_eqNilS rfl rfl ?_ | refine JO_buildSlice rfl rfl rfl (by decide) rfl (fun r => ?_) | refine JO_notP rfl rfl ?_ | refine JO_not rfl rfl ?_ | refine JO_addN rfl rfl (by omega) rfl ?_ | refine JO_add rfl rfl (by omega) rfl ?_ | refine JO_sub rfl rfl (by omega) rfl ?_ | refine JO_extract rfl rfl rfl ?_ | refine JO_boxA rfl rfl (fun r => ?_) | refine JO_box1 rfl rfl rfl (fun r => ?_) | refine JO_allocA rfl (fun r => ?_) | refine JO_alloc1 (by rfl) rfl (fun r => ?_) | refine JO_makeFunc rfl rfl rfl ?_ | refine JO_makeIface (by simp) rfl rfl ?_ | refine JO_store rfl rfl (by first | rfl | assumption) rfl ?_ | refine JO_storeW rfl rfl (by rfl) (by rfl) (by first | decide | simp [Value.oneCell']) rfl ?_ | refine JO_index1 rfl rfl (by omega) rfl ?_ | refine JO_index rfl rfl (by omega) rfl ?_ | refine JO_callVP rfl (hcm) rfl ?_ | refine JO_callV' rfl (hcm) rfl ?_) | refine JL_pass rfl rfl rfl ?_ | refine JL_passN rfl rfl rfl ?_))
      exact ⟨⟨k + 1, by omega⟩, by simp only; omega, sub_int rfl (by simp only; omega) (sub_int rfl (by simp only; omega) (sub_nil _)), rfl, Ent.sel⟩
  obtain rfl : k = 27 := by omega
  have s0 : Ct Tryd.prog 35 #[.agg (insC ⟨1, (-9223372036854775808), 0, 0, 0, []⟩ (.slice none 0 0)).toArray, str [1, 255, 255, 255, 255, 255, 255, 255, 255, 255, 1]] [Vw 1 (.slice none 0 0) 0 (ints [])] (RetV (.bool true) []) := isI_c ⟨1, (-9223372036854775808), 0, 0, 0, []⟩ none 0 (by decide) (by decide) (by decide) (n := 1) rfl (by decide) wf20 _ wb20.symm
  have s1 : Ct Tryd.prog 35 #[.agg (insC ⟨21, 0, 0, 0, 0, []⟩ (.slice none 0 0)).toArray, str [21, 0, 0]] [Vw 1 (.slice none 0 0) 0 (ints [])] (RetV (.bool true) []) := isI_c ⟨21, 0, 0, 0, 0, []⟩ none 0 (by decide) (by decide) (by decide) (n := 21) rfl (by decide) wf21 _ wb21.symm
  have s2 : ∀ r : Nat, Ct Tryd.prog 35 #[.agg (insC ⟨19, 0, 0, 0, 0, [1, 1, 1]⟩ (.slice (some ⟨r, 0, none⟩) 3 3)).toArray, str [19, 0, 3, 1, 1, 1]] [Vw 1 (.slice (some ⟨r, 0, none⟩) 3 3) 3 (ints [1, 1, 1])] (RetV (.bool true) []) := fun r => isI_c ⟨19, 0, 0, 0, 0, [1, 1, 1]⟩ _ 3 (by decide) (by decide) (by decide) (n := 19) rfl (by decide) wf22 _ wb22.symm
  have f0 := fails9_c [1, 128, 0] (by decide) 5 1 _ _ ((read_D _ _).trans rfl) (by decide) te fz
  have f1 := fails9_c [20, 0, 0, 2, 2] (by decide) 2 0 _ _ ((read_D _ _).trans rfl) (by decide) te fz
  have f2 := fails9_c [20, 0, 233, 7] (by decide) 4 2 _ _ ((read_D _ _).trans rfl) (by decide) te fz
  have f3 := fails9_c [21, 0, 2, 1, 1] (by decide) 2 0 _ _ ((read_D _ _).trans rfl) (by decide) te fz
  have k1 : Ct Tryd.prog 33 #[.agg (insC ⟨25, 0, 0, 0, 0, []⟩ (.slice none 0 0)).toArray] [Vw 1 (.slice none 0 0) 0 (ints [])] (RetV (.int .i64 11) []) := by
    have h := check_c ⟨25, 0, 0, 0, 0, []⟩ none 0 (by decide) (by decide)
    rw [chk_out (.inr (by decide))] at h
    exact h
  have k2 : Ct Tryd.prog 33 #[.agg (insC ⟨(-1), 0, 0, 0, 0, []⟩ (.slice none 0 0)).toArray] [Vw 1 (.slice none 0 0) 0 (ints [])] (RetV (.int .i64 11) []) := by
    have h := check_c ⟨(-1), 0, 0, 0, 0, []⟩ none 0 (by decide) (by decide)
    rw [chk_out (.inl (by decide))] at h
    exact h
  have m1 : Ct Tryd.prog 36 #[.int .i64 14] [] (RetV (.bool true) []) := by
    have h := comm_c 14
    rw [commB_t (by decide)] at h
    exact h
  have m2 : Ct Tryd.prog 36 #[.int .i64 19] [] (RetV (.bool true) []) := by
    have h := comm_c 19
    rw [commB_t (by decide)] at h
    exact h
  have m3 : Ct Tryd.prog 37 #[.int .i64 12] [] (RetV (.bool false) []) := by
    have h := ends_c 12
    rw [endsO_f (by decide)] at h
    exact h
  have m4 : Ct Tryd.prog 37 #[.int .i64 24] [] (RetV (.bool true) []) := by
    have h := ends_c 24
    rw [endsO_t (by decide)] at h
    exact h
  repeat (first | (first | refine J_region ?_ | refine JL_nil ?_ | refine J_seq ?_ | refine J_block ?_ | refine J_skip ?_ | refine J_label ?_ | refine J_condT rfl ?_ | refine J_condF rfl ?_ | refine J_exit ?_ | refine J_ret ?_) | (first | ((first | refine JL_step rfl ?_ | refine JL_take rfl rfl ?_); first | refine JO_q (by simp) (JQ_lssT rfl rfl (by omega)) rfl ?_ | refine JO_q (by simp) (JQ_lssF rfl rfl (by omega)) rfl ?_ | refine JO_q (by simp) (JQ_leqT rfl rfl (by omega)) rfl ?_ | refine JO_q (by simp) (JQ_leqF rfl rfl (by omega)) rfl ?_ | refine JO_q (by simp) (JQ_gtrT rfl rfl (by omega)) rfl ?_ | refine JO_q (by simp) (JQ_gtrF rfl rfl (by omega)) rfl ?_ | refine JO_q (by simp) (JQ_geqT rfl rfl (by omega)) rfl ?_ | refine JO_q (by simp) (JQ_geqF rfl rfl (by omega)) rfl ?_ | refine JO_q (by simp) (JQ_eqT rfl rfl (by omega)) rfl ?_ | refine JO_q (by simp) (JQ_eqF rfl rfl (by omega)) rfl ?_ | refine JO_q (by simp) (JQ_neT rfl rfl (by omega)) rfl ?_ | refine JO_q (by simp) (JQ_neF rfl rfl (by omega)) rfl ?_ | refine JO_build (cs := insC ⟨1, (-9223372036854775808), 0, 0, 0, []⟩ (.slice none 0 0)) rfl rfl rfl ?_ | refine JO_build (cs := insC ⟨21, 0, 0, 0, 0, []⟩ (.slice none 0 0)) rfl rfl rfl ?_ | refine JO_buildV [1, 1, 1] rfl rfl rfl wd22 rfl (by decide) rfl (fun r => ?_) | refine JO_build (cs := insC ⟨19, 0, 0, 0, 0, [1, 1, 1]⟩ (.slice (some ⟨_, 0, none⟩) 3 3)) rfl rfl rfl ?_ | refine JO_build (cs := insC ⟨25, 0, 0, 0, 0, []⟩ (.slice none 0 0)) rfl rfl rfl ?_ | refine JO_build (cs := insC ⟨(-1), 0, 0, 0, 0, []⟩ (.slice none 0 0)) rfl rfl rfl ?_ | refine JO_move rfl rfl ?_ | refine JO_assign rfl rfl ?_ | refine JO_len rfl rfl ?_ | refine JO_lenS rfl rfl ?_ | refine JO_field0 rfl rfl ?_ | refine JO_field rfl rfl ?_ | refine JO_load rfl rfl ?_ | refine JO_loadW rfl (by rfl) rfl ?_ | refine JO_pickT rfl rfl rfl ?_ | refine JO_pickF rfl rfl rfl ?_ | refine JO_lss rfl rfl rfl ?_ | refine JO_leq rfl rfl rfl ?_ | refine JO_gtr rfl rfl rfl ?_ | refine JO_geq rfl rfl rfl ?_ | refine JO_eqI rfl rfl rfl ?_ | refine JO_neI rfl rfl rfl ?_ | refine JO_and rfl rfl rfl ?_ | refine JO_or rfl rfl rfl ?_ | refine JO_xor rfl rfl rfl ?_ | refine JO_andNot rfl rfl rfl ?_ | refine JO_conv rfl rfl ?_ | refine JO_eqNilS rfl rfl ?_ | refine JO_buildSlice rfl rfl rfl (by decide) rfl (fun r => ?_) | refine JO_notP rfl rfl ?_ | refine JO_not rfl rfl ?_ | refine JO_addN rfl rfl (by omega) rfl ?_ | refine JO_add rfl rfl (by omega) rfl ?_ | refine JO_sub rfl rfl (by omega) rfl ?_ | refine JO_extract rfl rfl rfl ?_ | refine JO_boxA rfl rfl (fun r => ?_) | refine JO_box1 rfl rfl rfl (fun r => ?_) | refine JO_allocA rfl (fun r => ?_) | refine JO_alloc1 (by rfl) rfl (fun r => ?_) | refine JO_makeFunc rfl rfl rfl ?_ | refine JO_makeIface (by simp) rfl rfl ?_ | refine JO_store rfl rfl (by first | rfl | assumption) rfl ?_ | refine JO_storeW rfl rfl (by rfl) (by rfl) (by first | decide | simp [Value.oneCell']) rfl ?_ | refine JO_index1 rfl rfl (by omega) rfl ?_ | refine JO_index rfl rfl (by omega) rfl ?_ | refine JO_callVP rfl (hw) rfl ?_ | refine JO_callV' rfl (hw) rfl ?_ | refine JO_callVP rfl (s0) rfl ?_ | refine JO_callV' rfl (s0) rfl ?_ | refine JO_callVP rfl (s1) rfl ?_ | refine JO_callV' rfl (s1) rfl ?_ | refine JO_callVP rfl (s2 _) rfl ?_ | refine JO_callV' rfl (s2 _) rfl ?_ | refine JO_callVP rfl (f0) rfl ?_ | refine JO_callV' rfl (f0) rfl ?_ | refine JO_callVP rfl (f1) rfl ?_ | refine JO_callV' rfl (f1) rfl ?_ | refine JO_callVP rfl (f2) rfl ?_ | refine JO_callV' rfl (f2) rfl ?_ | refine JO_callVP rfl (f3) rfl ?_ | refine JO_callV' rfl (f3) rfl ?_ | refine JO_callVP rfl (k1) rfl ?_ | refine JO_callV' rfl (k1) rfl ?_ | refine JO_callVP rfl (k2) rfl ?_ | refine JO_callV' rfl (k2) rfl ?_ | refine JO_callVP rfl (m1) rfl ?_ | refine JO_callV' rfl (m1) rfl ?_ | refine JO_callVP rfl (m2) rfl ?_ | refine JO_callV' rfl (m2) rfl ?_ | refine JO_callVP rfl (m3) rfl ?_ | refine JO_callV' rfl (m3) rfl ?_ | refine JO_callVP rfl (m4) rfl ?_ | refine JO_callV' rfl (m4) rfl ?_) | refine JL_pass rfl rfl rfl ?_ | refine JL_passN rfl rfl rfl ?_))
  exact ret_oneV rfl rfl .nil
end Go.Proofs.YtfelcdbhlahehaaDoor
