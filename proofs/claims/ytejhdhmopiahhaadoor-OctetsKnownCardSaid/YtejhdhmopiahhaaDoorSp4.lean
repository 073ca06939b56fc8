/- Owned rows that grow (append), rows made whole (make), frozen rows that are read; arrays; bits. -/
import Derived.Test.YtejhdhmopiahhaaDoorSp3
import Derived.Lib.SliceRun
namespace Go.Sp
open Go.RowKit

/-- v: a slice with n elements (of sz cells each) whose array is owned, and begins with the cells cs; or nil, and none. -/
def OwnS (e sz : Nat) (v : Value) (n : Nat) (cs : List Value) : HP := fun h => cs.length = n * sz ∧
  ((v = .slice none 0 0 ∧ n = 0) ∨ ∃ b sp cap, v = .slice (some ⟨b, 0, none⟩) n cap ∧ n ≤ cap ∧ cap ≤ maxLen ∧ cs.length + sp.length = cap * sz ∧ h (some b) = some (false, .obj (.cells (cs ++ sp).toArray e (0, 0))))

/-- v: a slice with n elements (of sz cells each), whose cells are cs, frozen. -/
def Vw (sz : Nat) (v : Value) (n : Nat) (cs : List Value) : HP := fun h => cs.length = n * sz ∧ n ≤ maxLen ∧
  ∃ p cap, v = .slice p n cap ∧ (n = 0 ∨ ∃ b o all e fz, p = some ⟨b, o, none⟩ ∧ h (some b) = some (true, .obj (.cells (List.toArray all) e fz)) ∧ ∀ i u, cs[i]? = some u → all[o + i]? = some u)

theorem pers_vw (sz : Nat) (v : Value) (n : Nat) (cs : List Value) : Pers (Vw sz v n cs) := by
  rintro h ⟨h1, h0, p, cap, h2, h3⟩
  refine ⟨h1, h0, p, cap, h2, h3.imp id ?_⟩
  rintro ⟨b, o, all, e, fz, h4, h5, h6⟩
  exact ⟨b, o, all, e, fz, h4, ice_ice h5, h6⟩

theorem Sat.own_cases {w : World} {e sz : Nat} {v : Value} {n : Nat} {cs : List Value} {L : List HP} (h : Sat w (OwnS e sz v n cs :: L)) :
    cs.length = n * sz ∧ ((v = .slice none 0 0 ∧ n = 0 ∧ Sat w L) ∨ ∃ b sp cap, v = .slice (some ⟨b, 0, none⟩) n cap ∧ n ≤ cap ∧ cap ≤ maxLen ∧ cs.length + sp.length = cap * sz ∧ Sat w (pt b (.cells (cs ++ sp).toArray e (0, 0)) :: L)) := by
  have h0 : cs.length = n * sz := h.out (fun _ hk => hk.1)
  refine ⟨h0, ?_⟩
  by_cases hv : v = .slice none 0 0 ∧ n = 0
  · exact .inl ⟨hv.1, hv.2, h.tail⟩
  · right
    have := h.outE (α := Nat × List Value × Nat) (B := fun x k => v = .slice (some ⟨x.1, 0, none⟩) n x.2.2 ∧ n ≤ x.2.2 ∧ x.2.2 ≤ maxLen ∧ cs.length + x.2.1.length = x.2.2 * sz ∧ k (some x.1) = some (false, .obj (.cells (cs ++ x.2.1).toArray e (0, 0)))) (by
      rintro k ⟨_, h1 | ⟨b, sp, cap, h1⟩⟩
      · exact absurd h1 hv
      · exact ⟨(b, sp, cap), h1⟩)
    obtain ⟨⟨b, sp, cap⟩, hs⟩ := this
    have hf := hs.out (φ := v = .slice (some ⟨b, 0, none⟩) n cap ∧ n ≤ cap ∧ cap ≤ maxLen ∧ cs.length + sp.length = cap * sz) (fun k hk => ⟨hk.1, hk.2.1, hk.2.2.1, hk.2.2.2.1⟩)
    exact ⟨b, sp, cap, hf.1, hf.2.1, hf.2.2.1, hf.2.2.2, hs.conv fun k hk => hk.2.2.2.2⟩
theorem Sat.own_block {w : World} {e sz b cap n : Nat} {cs sp : List Value} {L : List HP} (h : Sat w (pt b (.cells (cs ++ sp).toArray e (0, 0)) :: L)) (h0 : cs.length = n * sz) (h1 : n ≤ cap) (h2 : cap ≤ maxLen) (h3 : cs.length + sp.length = cap * sz) :
    Sat w (OwnS e sz (.slice (some ⟨b, 0, none⟩) n cap) n cs :: L) := h.conv fun _ hk => ⟨h0, .inr ⟨b, sp, cap, rfl, h1, h2, h3, hk⟩⟩
theorem Sat.own_nil {w : World} {e sz : Nat} {L : List HP} (h : Sat w L) : Sat w (OwnS e sz (.slice none 0 0) 0 [] :: L) := h.add ⟨by simp, .inl ⟨rfl, rfl⟩⟩
theorem own_wide {e sz : Nat} {v : Value} {n : Nat} {cs : List Value} {h : Part} (hk : OwnS e sz v n cs h) : n ≤ maxLen := by
  obtain ⟨_, ⟨_, rfl⟩ | ⟨b, sp, cap, _, h1, h2, _⟩⟩ := hk
  · simp [maxLen]
  · exact Nat.le_trans h1 h2
theorem own_one {e sz : Nat} {v : Value} {n : Nat} {cs : List Value} {h : Part} (hk : OwnS e sz v n cs h) : v.oneCell' = true := by
  obtain ⟨_, ⟨rfl, _⟩ | ⟨b, sp, cap, rfl, _⟩⟩ := hk <;> rfl
/-- An owned row, frozen. -/
theorem Sat.own_freeze {w : World} {e sz : Nat} {v : Value} {n : Nat} {cs : List Value} {L : List HP} (h : Sat w (OwnS e sz v n cs :: L)) : Sat w (Vw sz v n cs :: L) := by
  have hw : n ≤ maxLen := h.out (fun _ => own_wide)
  obtain ⟨h0, ⟨rfl, rfl, hs⟩ | ⟨b, sp, cap, rfl, h1, h2, h3, hs⟩⟩ := h.own_cases
  · exact hs.add ⟨h0, hw, none, 0, rfl, .inl rfl⟩
  · exact hs.freeze.conv fun k hk => ⟨h0, hw, some ⟨b, 0, none⟩, cap, rfl, .inr ⟨b, 0, cs ++ sp, e, (0, 0), rfl, hk, fun i u hu => by
      rw [Nat.zero_add, List.getElem?_append_left (List.getElem?_eq_some_iff.1 hu).1]; exact hu⟩⟩

theorem length_cells_pos {z : Value} {sz : Nat} (h : z.cells.size = sz) (n : Nat) : (Builtin.zeroCells z.cells n).toList.length = n * sz := by
  simp [Builtin.zeroCells, h]

theorem append_nil_nil {P : Program} {w : World} {t e ty : TypeId} {i : TypeInfo} (ht : P.underlying t = some (.slice e)) (hi : P.info? e = some i) (a : Addr) (c : Nat) :
    (Builtin.append_ #[t, t] ty #[.slice none 0 0, .slice (some a) 0 c]).run P w = .ok (.slice none 0 0) w := by
  simp [Builtin.append_, run_underlying ht, sizeOf, typeInfo, hi, Builtin.lenOf, Builtin.firstCells, loadCells, loadCellsFrom]
theorem append_nothing {P : Program} {w : World} {t e ty : TypeId} {i : TypeInfo} (ht : P.underlying t = some (.slice e)) (hi : P.info? e = some i) (p : Option Addr) (n cap : Nat) (hn : n ≤ cap) (u : Value) (hu : ∃ q c, u = .slice q 0 c) :
    (Builtin.append_ #[t, t] ty #[.slice p n cap, u]).run P w = .ok (.slice p n cap) w := by
  obtain ⟨q, c, rfl⟩ := hu
  cases p <;> cases q <;> simp [Builtin.append_, run_underlying ht, sizeOf, typeInfo, hi, Builtin.lenOf, Builtin.firstCells, loadCells, loadCellsFrom, hn, storeCells]

/-- The built-in append, on an owned row; what is appended stands in memory. -/
theorem sat_append {P : Program} {w : World} {L : List HP} {t e ty sz k : Nat} {z : Value} (ht : P.underlying t = some (.slice e)) [TI P e z sz k] (hzs : z.cells.size = sz) (hsz : 0 < sz) {v : Value} {n : Nat} {cs : List Value}
    (hs : Sat w (OwnS e sz v n cs :: L)) {p : Option Addr} {m c : Nat} {news : List Value} (hl : news.length = m * sz) (hr : m = 0 ∨ ∃ a, p = some a ∧ ∀ j u, news[j]? = some u → w.cell? (a.add j) = some u) (h1 : ∀ u ∈ news, u.oneCell' = true)
    (hb : (n + m) * k ≤ 140737488355328) (hk : 0 < k) :
    ∃ v' w', (Builtin.append_ #[t, t] ty #[v, .slice p m c]).run P w = .ok v' w' ∧ Sat w' (OwnS e sz v' (n + m) (cs ++ news) :: L) := by
  obtain ⟨i, hi, hz, hsize, hbytes⟩ := TI.h (P := P) (t := e) (z := z) (n := sz) (b := k)
  have hnm : n + m ≤ (n + m) * k := Nat.le_mul_of_pos_right _ hk
  have hml : n + m ≤ maxLen := by simp [maxLen]; omega
  obtain ⟨h0, hcase⟩ := hs.own_cases
  by_cases hm : m = 0
  · subst hm
    have hnews : news = [] := by simpa using hl
    subst hnews
    rcases hcase with ⟨rfl, rfl, hs'⟩ | ⟨b, sp, cap, rfl, hle, hcm, hlen, hs'⟩
    · exact ⟨_, w, append_nothing ht hi none 0 0 (Nat.le_refl _) _ ⟨p, c, rfl⟩, by simpa using hs⟩
    · exact ⟨_, w, append_nothing ht hi _ n cap hle _ ⟨p, c, rfl⟩, by simpa using hs⟩
  · obtain ⟨a, rfl, hr2⟩ := hr.resolve_left hm
    have hl' : news.length = m * i.size := by rw [hsize]; exact hl
    rcases hcase with ⟨rfl, rfl, hs'⟩ | ⟨b, sp, cap, rfl, hle, hcm, hlen, hs'⟩
    · have hcs : cs = [] := by simpa using h0
      subst hcs
      have hrun := run_append_nil (P := P) w t ty e i z ht hi hz a m c news hl' hr2 (by omega) (by omega) (by rw [hbytes]; simp only [Nat.zero_add] at hb; omega)
      refine ⟨_, _, hrun, ?_⟩
      have hge := grownCap_ge w m 0 e
      have hmx := grownCap_le_maxLen w m 0 e (by simpa using hml)
      have hnew := (hs'.world (w' := w.drew) rfl).new (.cells (news ++ (Builtin.zeroCells z.cells (grownCap w m 0 e - m)).toList).toArray e)
      have hsz2 : w.drew.heap.size = w.heap.size := rfl
      rw [hsz2] at hnew
      have hcells : (news ++ (Builtin.zeroCells z.cells (grownCap w m 0 e - m)).toList).toArray = news.toArray ++ Builtin.zeroCells z.cells (grownCap w m 0 e - m) := by apply Array.ext'; simp
      have h3 : news.length + (Builtin.zeroCells z.cells (grownCap w m 0 e - m)).toList.length = grownCap w m 0 e * sz := by
        rw [length_cells_pos hzs, hl, ← Nat.add_mul]; congr 1; omega
      have := Sat.own_block (n := m) (sz := sz) (cap := grownCap w m 0 e) hnew hl hge hmx h3
      rw [hcells] at this
      simp only [Nat.zero_add, List.nil_append]
      exact this
    · by_cases hfit : n + m ≤ cap
      · have hroom := run_append_room (P := P) w t ty e i ht hi b n cap (cs ++ sp).toArray hs'.pt_heap a m c news hl' hr2 h1 hfit (by
          rw [hsize, hl]; simp only [List.size_toArray, List.length_append]; rw [hlen, ← Nat.add_mul]; exact Nat.mul_le_mul_right _ hfit)
        refine ⟨_, _, hroom, ?_⟩
        rw [hsize] at *
        have e1 : (cs ++ sp).take (n * sz) = cs := by rw [← h0]; simp
        have e2 : (cs ++ sp).drop (n * sz + news.length) = sp.drop news.length := by rw [← h0]; simp
        rw [e1, e2]
        have hb1 := hs'.pt_heap
        have hb2 := (Array.getElem?_eq_some_iff.1 hb1).1
        have hs3 : Sat (w.setRow b (cs ++ news ++ sp.drop news.length).toArray) (pt b (.cells (cs ++ news ++ sp.drop news.length).toArray e (0, 0)) :: L) := by
          refine hs'.grown rfl rfl rfl (fun k hk hne => ?_) ?_
          · simp [World.setRow, Array.getElem?_modify, Ne.symm hne]
          · simp [World.setRow, Array.getElem?_modify, hb1]
        refine Sat.own_block hs3 ?_ hfit hcm ?_
        · simp [h0, hl, Nat.add_mul]
        · simp only [List.length_append, List.length_drop]
          have : news.length ≤ sp.length := by
            have := Nat.mul_le_mul_right sz hfit
            rw [Nat.add_mul, ← hlen, ← hl, ← h0] at this
            omega
          omega
      · have hgrow := run_append_grow (P := P) w t ty e i z ht hi hz ⟨b, 0, none⟩ n cap cs (by rw [hsize]; exact h0) (fun j u hj => by
            rw [addr_add, Nat.zero_add]
            exact cell_of hs'.pt_heap (by rw [List.getElem?_append_left (List.getElem?_eq_some_iff.1 hj).1]; exact hj)) a m c news hl' hr2 (by omega) (by omega)
            (growslice_fits (by omega) (by rw [hbytes]; exact hb))
        refine ⟨_, _, hgrow, ?_⟩
        have hge := grownCap_ge w (n + m) cap e
        have hmx := grownCap_le_maxLen w (n + m) cap e hml
        have hnew := ((hs'.tail).world (w' := w.drew) rfl).new (.cells (cs ++ news ++ (Builtin.zeroCells z.cells (grownCap w (n + m) cap e - (n + m))).toList).toArray e)
        have hsz2 : w.drew.heap.size = w.heap.size := rfl
        rw [hsz2] at hnew
        have hcells : (cs ++ news ++ (Builtin.zeroCells z.cells (grownCap w (n + m) cap e - (n + m))).toList).toArray = cs.toArray ++ news.toArray ++ Builtin.zeroCells z.cells (grownCap w (n + m) cap e - (n + m)) := by apply Array.ext'; simp
        have h3 : (cs ++ news).length + (Builtin.zeroCells z.cells (grownCap w (n + m) cap e - (n + m))).toList.length = grownCap w (n + m) cap e * sz := by
          rw [length_cells_pos hzs, List.length_append, h0, hl, ← Nat.add_mul, ← Nat.add_mul]; congr 1; omega
        have := Sat.own_block (n := n + m) (sz := sz) (cap := grownCap w (n + m) cap e) hnew (by simp [h0, hl, Nat.add_mul]) hge hmx h3
        rw [hcells] at this
        exact this

/-- An owned row, found by its value. -/
class TkO (v : Value) (L : List HP) (e sz n : outParam Nat) (cs : outParam (List Value)) (M : outParam (List HP)) : Prop where h : L.Perm (OwnS e sz v n cs :: M)
instance tko_head (v : Value) (e sz n : Nat) (cs : List Value) (L : List HP) : TkO v (OwnS e sz v n cs :: L) e sz n cs L := ⟨.refl _⟩
instance (priority := low) tko_tail (v : Value) (A : HP) (e sz n : Nat) (cs : List Value) (L M : List HP) [h : TkO v L e sz n cs M] : TkO v (A :: L) e sz n cs (A :: M) := ⟨(h.h.cons A).trans (List.Perm.swap _ _ _)⟩

/-- A frozen row, found by its value. -/
class HV (L : List HP) (v : Value) (sz n : outParam Nat) (cs : outParam (List Value)) : Prop where h : ∀ (F : HP) (w : World), Sat w (F :: L) → ∃ M, Sat w (Vw sz v n cs :: M)
instance hv_head (v : Value) (sz n : Nat) (cs : List Value) (L : List HP) : HV (Vw sz v n cs :: L) v sz n cs := ⟨fun _ _ hs => ⟨_, hs.tail⟩⟩
instance (priority := low) hv_tail (A : HP) (v : Value) (sz n : Nat) (cs : List Value) (L : List HP) [h : HV L v sz n cs] : HV (A :: L) v sz n cs := ⟨fun _ _ hs => h.h A _ hs.tail⟩

/-- What a slice's cells read as. -/
def Rds (L : List HP) (u : Value) (m : Nat) (cs : List Value) : Prop := ∃ p c, u = .slice p m c ∧ ∀ (F : HP) (w : World), Sat w (F :: L) → m = 0 ∨ ∃ a, p = some a ∧ ∀ j x, cs[j]? = some x → w.cell? (a.add j) = some x

section
variable {P : Program} {N : Nat} {rd : Option Nat} {E : Env} {D : List Deferred} {L : List HP} {Q : Post} {next : Env → List Deferred → List HP → Prop}
variable {d : Option Nat} {ty : TypeId} {pos : String} {after : Array Edge} {g : Option (Nat × Bool)}

/-- append, whatever is appended. -/
theorem JO_append {x y : Operand} {t e sz n m k : Nat} [TU P t (.slice e)] {z : Value} [TI P e z sz k] {v u : Value} {cs news : List Value} {M : List HP} (hx : ev E x = some v) (hy : ev E y = some u)
    [ho : TkO v L e sz n cs M] (hr : Rds L u m news) (hzs : z.cells.size = sz) (hsz : 0 < sz) (hl : news.length = m * sz) (h1 : ∀ u ∈ news, u.oneCell' = true) (hb : (n + m) * k ≤ 140737488355328) (hk : 0 < k)
    (hd : dok N d = true) (h : ∀ v', v'.oneCell' = true → next (put E d v') D (OwnS e sz v' (n + m) (cs ++ news) :: M)) : JO P N rd ⟨d, .call ⟨.builtin .append, #[x, y], #[t, t]⟩, ty, pos, after, g⟩ E D L next Q :=
  JO_value (fun c => by simp) hd fun F a w hr' hs => by
    obtain ⟨p, c, rfl, hrd⟩ := hr
    have hs1 : Sat w (OwnS e sz v n cs :: F :: M) := (hs.perm (ho.h.cons F)).swap
    obtain ⟨v', w', h2, h3⟩ := sat_append (P := P) (t := t) (ty := ty) (c := c) TU.h hzs hsz hs1 hl (hrd F w hs) h1 hb hk
    exact ⟨v', w', _, by simp [execOp, resolve, invoke, builtin, hr'.eval hx, hr'.eval hy, h2], h3.swap, h v' (h3.out fun _ hk => own_one hk)⟩

theorem rds_block {r m c : Nat} {cs : List Value} {bt : TypeId} {fz : Nat × Nat} [hb : HB L r (.cells cs.toArray bt fz)] : Rds L (.slice (some ⟨r, 0, none⟩) m c) m cs :=
  ⟨_, _, rfl, fun F w hs => .inr ⟨_, rfl, fun j x hj => by rw [addr_add, Nat.zero_add]; exact cell_of (hb.h F w hs) hj⟩⟩
/-- append of elements that stand in a block known cell by cell (append(l, x)). -/
theorem JO_appendB {x y : Operand} {t e sz n m k r c : Nat} [TU P t (.slice e)] {z : Value} [TI P e z sz k] {v : Value} {cs news : List Value} {M : List HP} {bt : TypeId} {fz : Nat × Nat} (hx : ev E x = some v) (hy : ev E y = some (.slice (some ⟨r, 0, none⟩) m c))
    [ho : TkO v L e sz n cs M] [HB L r (.cells news.toArray bt fz)] (hzs : z.cells.size = sz) (hsz : 0 < sz) (hl : news.length = m * sz) (h1 : ∀ u ∈ news, u.oneCell' = true) (hb : (n + m) * k ≤ 140737488355328) (hk : 0 < k)
    (hd : dok N d = true) (h : ∀ v', v'.oneCell' = true → next (put E d v') D (OwnS e sz v' (n + m) (cs ++ news) :: M)) : JO P N rd ⟨d, .call ⟨.builtin .append, #[x, y], #[t, t]⟩, ty, pos, after, g⟩ E D L next Q :=
  JO_append hx hy rds_block hzs hsz hl h1 hb hk hd h
theorem rds_vw {v : Value} {sz n : Nat} {cs : List Value} [hv : HV L v sz n cs] (hp : ∃ p c, v = .slice p n c) : Rds L v n cs := by
  obtain ⟨p, c, rfl⟩ := hp
  refine ⟨p, c, rfl, fun F w hs => ?_⟩
  obtain ⟨M, hM⟩ := hv.h F w hs
  obtain ⟨k, ⟨a, b, _, hle, _, hV, _⟩, m⟩ := hM
  obtain ⟨h1, _, p', cap, h2, h3⟩ := hV
  cases h2
  refine h3.imp id ?_
  rintro ⟨b, o, all, e, fz, rfl, h5, h6⟩
  exact ⟨_, rfl, fun j x hj => by rw [addr_add]; exact cell_of (at_obj (m _ _ (hle _ _ h5))) (h6 j x hj)⟩

/-- make, of as many as it can hold; of elements of one cell. -/
theorem JO_make {x y : Operand} {t e k : Nat} [TU P t (.slice e)] {z : Value} [TI P e z 1 k] {n : Nat} {ik jk : IntKind} (hx : ev E x = some (.int ik (n : Int))) (hy : ev E y = some (.int jk (n : Int))) (hz : z.cells = #[z]) (hb : k * n ≤ 281474976710656) (hn : n ≤ maxLen)
    (hd : dok N d = true) (h : ∀ b, next (put E d (.slice (some ⟨b, 0, none⟩) n n)) D (pt b (.cells (List.replicate n z).toArray e (0, 0)) :: L)) : JO P N rd ⟨d, .makeSlice t x y, ty, pos, after, g⟩ E D L next Q :=
  JO_value (fun c => by simp) hd fun F a w hr hs => by
    obtain ⟨i, h1, h2, h3, h4⟩ := TI.h (P := P) (t := e) (z := z) (n := 1) (b := k)
    have hb' : (i.bytes : Int) * (n : Int) ≤ 281474976710656 := by rw [h4, ← Int.natCast_mul]; omega
    have hr2 := run_make (P := P) w t e i z TU.h h1 h2 ik jk n n (by omega) (Int.le_refl _) hb' (by simp [maxLen] at hn; omega)
    have e1 : madeCells z.cells ((n : Int).toNat * i.size) = (List.replicate n z).toArray := by
      apply Array.ext'
      rw [hz, h3, Nat.mul_one, Int.toNat_natCast, toList_madeCells_one]
    rw [e1] at hr2
    simp only [Int.toNat_natCast] at hr2
    exact ⟨_, _, _, by simp [execOp, hr.eval hx, hr.eval hy, hr2], (hs.new _).swap, h _⟩

/-- An element's place, in a frozen row. -/
theorem JO_indexV {t e sz k : Nat} [TU P t (.slice e)] {z : Value} [TI P e z sz k] {x y : Operand} {p : Option Addr} {n cap j : Nat} {cs : List Value} {ik : IntKind} (hx : ev E x = some (.slice p n cap)) (hy : ev E y = some (.int ik (j : Int)))
    [hv : HV L (.slice p n cap) sz n cs] (hj : j < n) (hd : dok N d = true) (h : ∀ b o, (∀ i u, i < sz → cs[j * sz + i]? = some u → Lds L ⟨b, o + i, none⟩ u) → next (put E d (.pointer (some ⟨b, o, none⟩))) D L) :
    JO P N rd ⟨d, .indexAddr t x y, ty, pos, after, g⟩ E D L next Q := by
  intro F a w hr hs
  obtain ⟨M, hM⟩ := hv.h F w hs
  obtain ⟨kk, ⟨_, _, _, hle, _, hV, _⟩, m⟩ := hM
  obtain ⟨h1, _, p', cap', h2, h3⟩ := hV
  cases h2
  obtain ⟨b, o, all, e', fz, rfl, h5, h6⟩ := h3.resolve_left (by omega)
  refine JO_index hx hy hj hd (h b (o + j * sz) fun i u hi hu F' w' hs' => ?_) F a w hr hs
  obtain ⟨M', hM'⟩ := hv.h F' w' hs'
  obtain ⟨kk', ⟨_, _, _, hle', _, hV', _⟩, m'⟩ := hM'
  obtain ⟨_, _, p'', cap'', h2', h3'⟩ := hV'
  cases h2'
  obtain ⟨b', o', all', e'', fz', hb', h5', h6'⟩ := h3'.resolve_left (by omega)
  cases hb'
  rw [Nat.add_assoc]
  exact cell_of (at_obj (m' _ _ (hle' _ _ h5'))) (h6' _ _ hu)
theorem JO_indexV1 {t e k : Nat} [TU P t (.slice e)] {z : Value} [TI P e z 1 k] {x y : Operand} {p : Option Addr} {n cap j : Nat} {cs : List Value} {ik : IntKind} (hx : ev E x = some (.slice p n cap)) (hy : ev E y = some (.int ik (j : Int)))
    [hv : HV L (.slice p n cap) 1 n cs] (hj : j < n) (u : Value) (hu : cs[j]? = some u) (hd : dok N d = true) (h : ∀ b o, Lds L ⟨b, o, none⟩ u → next (put E d (.pointer (some ⟨b, o, none⟩))) D L) :
    JO P N rd ⟨d, .indexAddr t x y, ty, pos, after, g⟩ E D L next Q :=
  JO_indexV hx hy hj hd fun b o hl => h b o (by have := hl 0 u (by omega) (by simpa using hu); simpa using this)

/-- A whole struct, told cell by cell. -/
theorem JO_loadAL {t n : TypeId} [TA P t n] {x : Operand} {b o : Nat} (cs : List Value) (hx : ev E x = some (.pointer (some ⟨b, o, none⟩))) (hl : ∀ i u, cs[i]? = some u → Lds L ⟨b, o + i, none⟩ u) (hn : cs.length = n)
    (hd : dok N d = true) (h : next (put E d (.agg cs.toArray)) D L) : JO P N rd ⟨d, .load t x, ty, pos, after, g⟩ E D L next Q :=
  JO_value (fun c => by simp) hd fun F a w hr hs => ⟨_, w, L, by
    obtain ⟨_, i, hi, hsz⟩ := TA.h (P := P) (t := t) (n := n)
    have := run_loadCells_list (P := P) (w := w) ⟨b, o, none⟩ cs (fun j v hj => by rw [addr_add]; exact hl j v hj F w hs)
    rw [hn] at this
    simp [execOp, Instr.loadAt, Instr.sureAddr, hr.eval hx, loadVar, run_isAggA (P := P) (t := t) (n := n), run_sizeOf' hi, hsz, this], hs, h⟩

/-- A store of one cell into a row that is owned. -/
theorem JO_storeS {t : TypeId} {z : Value} {k : Nat} [TI P t z 1 k] {x y : Operand} {b off : Nat} {cs : List Value} {bt : TypeId} {v : Value} {L' : Obj → List HP} (hx : ev E x = some (.pointer (some ⟨b, off, none⟩))) (hy : ev E y = some v)
    [hb : WB L b (.cells cs.toArray bt (0, 0)) L'] (ho : off < cs.length) (hv : v.oneCell' = true) (hd : dok N d = true) (h : next (put E d undef) D (L' (.cells (cs.set off v).toArray bt (0, 0)))) : JO P N rd ⟨d, .store t x y, ty, pos, after, g⟩ E D L next Q :=
  JO_unit (fun c => by simp) hd fun F a w hr hs' => by
    obtain ⟨i, h1, h2, h3, h4⟩ := TI.h (P := P) (t := t) (z := z) (n := 1) (b := k)
    obtain ⟨hb1, hb2⟩ := hb.h F w hs'
    have hc := One.cells hv
    have hst := run_storeCell (P := P) hb1 (List.getElem?_eq_getElem ho) hv
    refine ⟨_, _, ?_, hb2 _, h⟩
    simp [execOp, Instr.storeAt, Instr.sureAddr, hr.eval hx, hr.eval hy, storeVar, hc, run_sizeOf' h1, h3, storeCells, Addr.add, hst]

/-- An array's element. -/
theorem JO_indexArr {t e len k : Nat} [TU P t (.array len e)] [T1 P e] {z : Value} [TI P e z 1 k] {x y : Operand} {cs : List Value} {j : Nat} {ik : IntKind} {v : Value} (hx : ev E x = some (.agg cs.toArray)) (hy : ev E y = some (.int ik (j : Int))) (hj : j < len)
    (hv : cs[j]? = some v) (hd : dok N d = true) (h : next (put E d v) D L) : JO P N rd ⟨d, .index t x y, ty, pos, after, g⟩ E D L next Q :=
  JO_pure _ (fun c => by simp) hd (fun a w hr => by
    obtain ⟨i, h1, h2, h3, h4⟩ := TI.h (P := P) (t := e) (z := z) (n := 1) (b := k)
    have h5 : ¬ len ≤ j := by omega
    simp [execOp, Instr.index, hr.eval hx, hr.eval hy, asIntOf, run_underlying' (TU.h (P := P) (t := t)), run_sizeOf' h1, h3, part, run_isAgg1 (P := P) (t := e), hv, h5]) h

/-- s == nil. -/
theorem JO_eqNilS {t e u : Nat} [TU P t (.slice e)] {x : Operand} {p : Option Addr} {n c : Nat} (hx : ev E x = some (.slice p n c)) (hd : dok N d = true) (h : next (put E d (.bool p.isNone)) D L) :
    JO P N rd ⟨d, .binOp .eql t x (.const (.slice none 0 0)) u, ty, pos, after, g⟩ E D L next Q :=
  JO_pure _ (fun c => by simp) hd (fun a w hr => by
    have h2 : (binOp .eql t (.slice p n c) (.slice none 0 0)).run P w = .ok (.bool p.isNone) w := Lib.run_eql_slice_nil w t e p n c 0 0 TU.h
    have h3 : a.eval (.const (.slice none 0 0)) = .slice none 0 0 := rfl
    simp [execOp, hr.eval hx, h3, eqGuard, h2]) h

/-! ### Bits -/
def ibits (op : BinOp) (k : IntKind) (x y : Int) : Int :=
  k.wrap (match op with
    | .and => (BitVec.ofInt k.bits x &&& BitVec.ofInt k.bits y).toNat
    | .or => (BitVec.ofInt k.bits x ||| BitVec.ofInt k.bits y).toNat
    | .xor => (BitVec.ofInt k.bits x ^^^ BitVec.ofInt k.bits y).toNat
    | _ => (BitVec.ofInt k.bits x &&& ~~~BitVec.ofInt k.bits y).toNat)
theorem JO_and {x y : Operand} {m n : Int} {t u : TypeId} {k : IntKind} (hx : ev E x = some (.int k m)) (hy : ev E y = some (.int k n)) (hd : dok N d = true) (h : next (put E d (.int k (ibits .and k m n))) D L) : JO P N rd ⟨d, .binOp .and t x y u, ty, pos, after, g⟩ E D L next Q :=
  JO_pure _ (fun c => by simp) hd (fun a w hr => by simp [execOp, hr.eval hx, hr.eval hy, eqGuard, binOp, Op.intBits, ibits]) h
theorem JO_or {x y : Operand} {m n : Int} {t u : TypeId} {k : IntKind} (hx : ev E x = some (.int k m)) (hy : ev E y = some (.int k n)) (hd : dok N d = true) (h : next (put E d (.int k (ibits .or k m n))) D L) : JO P N rd ⟨d, .binOp .or t x y u, ty, pos, after, g⟩ E D L next Q :=
  JO_pure _ (fun c => by simp) hd (fun a w hr => by simp [execOp, hr.eval hx, hr.eval hy, eqGuard, binOp, Op.intBits, ibits]) h
theorem JO_xor {x y : Operand} {m n : Int} {t u : TypeId} {k : IntKind} (hx : ev E x = some (.int k m)) (hy : ev E y = some (.int k n)) (hd : dok N d = true) (h : next (put E d (.int k (ibits .xor k m n))) D L) : JO P N rd ⟨d, .binOp .xor t x y u, ty, pos, after, g⟩ E D L next Q :=
  JO_pure _ (fun c => by simp) hd (fun a w hr => by simp [execOp, hr.eval hx, hr.eval hy, eqGuard, binOp, Op.intBits, ibits]) h
theorem JO_andNot {x y : Operand} {m n : Int} {t u : TypeId} {k : IntKind} (hx : ev E x = some (.int k m)) (hy : ev E y = some (.int k n)) (hd : dok N d = true) (h : next (put E d (.int k (ibits .andNot k m n))) D L) : JO P N rd ⟨d, .binOp .andNot t x y u, ty, pos, after, g⟩ E D L next Q :=
  JO_pure _ (fun c => by simp) hd (fun a w hr => by simp [execOp, hr.eval hx, hr.eval hy, eqGuard, binOp, Op.intBits, ibits]) h

/-- A conversion between kinds of whole numbers. -/
theorem JO_conv {src dst : TypeId} {k k' : IntKind} {sd : TypeDesc} [TU P src sd] [TU P dst (.int k')] {x : Operand} {n : Int} (hx : ev E x = some (.int k n)) (hd : dok N d = true) (h : next (put E d (.int k' (k'.wrap n))) D L) : JO P N rd ⟨d, .convert src dst x, ty, pos, after, g⟩ E D L next Q :=
  JO_pure _ (fun c => by simp) hd (fun a w hr => by simp [execOp, hr.eval hx, convert, run_underlying' (TU.h (P := P) (t := src)), run_underlying' (TU.h (P := P) (t := dst)), Conv.intToInt]) h

/-- An operation that reckons something closed, by the kernel. -/
theorem JO_run {o : Oper} (v : Value) (hnd : ∀ c, o.op ≠ .defer c) (h : ∀ (a : Act) (w : World), Rep N E D a → (execOp a.eval o).run P w = .ok (.value v) w) (hd : dok N o.dst = true) (hn : next (put E o.dst v) D L) : JO P N rd o E D L next Q :=
  JO_pure v hnd hd h hn

/-- A result that lies in memory. -/
theorem res_cell {fn : Func} {t ty b n : Nat} {cs : List Value} {bt : TypeId} {fz : Nat × Nat} [TA P ty n] (h : fn.results = #[.cell t ty]) (hv : Env.get E t = some (.pointer (some ⟨b, 0, none⟩))) [hb : HB L b (.cells cs.toArray bt fz)] (hn : cs.length = n) :
    Res P N fn E L (.agg cs.toArray) := fun F a w _ hr hs => by
  have h1 : (a.tmps.getD t undef) = .pointer (some ⟨b, 0, none⟩) := hr.eval (x := .tmp t) hv
  obtain ⟨_, i, hi, hsz⟩ := TA.h (P := P) (t := ty) (n := n)
  have h2 := run_loadCells_block (P := P) (off := 0) (n := n) (hb.h F w hs) (by omega)
  rw [List.drop_zero, List.take_of_length_le (by omega)] at h2
  have h3 : (asAddr (a.tmps[t]?.getD undef)).run P w = .ok ⟨b, 0, none⟩ w := by
    have : a.tmps[t]?.getD undef = a.tmps.getD t undef := by simp
    rw [this, h1]; rfl
  simp [results, h, h3, loadVar, run_isAggA (P := P) (t := ty) (n := n), run_sizeOf' hi, hsz, h2]
end
end Go.Sp
