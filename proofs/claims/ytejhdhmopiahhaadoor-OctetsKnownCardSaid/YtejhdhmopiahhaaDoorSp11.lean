/- Rows that are taken from at the front and added to at the back. -/
import Derived.Test.YtejhdhmopiahhaaDoorSp10
import Derived.ArgAppend
namespace Go.Sp
open Go.RowKit

def OwnQ (e : Nat) (v : Value) (n : Nat) (cs : List Value) : HP := fun h => cs.length = n ∧ ∃ p cap, v = .slice p n cap ∧ n ≤ cap ∧ cap ≤ maxLen ∧
  (cap = 0 ∨ ∃ b pre sp, p = some ⟨b, List.length pre, none⟩ ∧ List.length sp + n = cap ∧ h (some b) = some (false, .obj (.cells (pre ++ cs ++ sp).toArray e (0, 0))))
theorem ownQ_of {e : Nat} {v : Value} {n : Nat} {cs : List Value} (h : Part) (hk : OwnS e 1 v n cs h) : OwnQ e v n cs h := by
  obtain ⟨h0, ⟨rfl, rfl⟩ | ⟨b, sp, cap, rfl, h1, h2, h3, h4⟩⟩ := hk
  · exact ⟨by simpa using h0, none, 0, rfl, Nat.le_refl _, Nat.zero_le _, .inl rfl⟩
  · exact ⟨by omega, _, cap, rfl, h1, h2, .inr ⟨b, [], sp, rfl, by omega, by simpa using h4⟩⟩
theorem Sat.ownQ {w : World} {e : Nat} {v : Value} {n : Nat} {cs : List Value} {L : List HP} (h : Sat w (OwnS e 1 v n cs :: L)) : Sat w (OwnQ e v n cs :: L) := h.conv ownQ_of
theorem Sat.q_cases {w : World} {e : Nat} {v : Value} {n : Nat} {cs : List Value} {L : List HP} (h : Sat w (OwnQ e v n cs :: L)) :
    cs.length = n ∧ ∃ p cap, v = .slice p n cap ∧ n ≤ cap ∧ cap ≤ maxLen ∧ ((cap = 0 ∧ Sat w L) ∨ ∃ b pre sp, p = some ⟨b, List.length pre, none⟩ ∧ List.length sp + n = cap ∧ Sat w (pt b (.cells (pre ++ cs ++ sp).toArray e (0, 0)) :: L)) := by
  have h0 : cs.length = n := h.out (fun _ hk => hk.1)
  refine ⟨h0, ?_⟩
  obtain ⟨⟨p, cap⟩, hs⟩ := h.outE (α := Option Addr × Nat) (B := fun x k => v = .slice x.1 n x.2 ∧ n ≤ x.2 ∧ x.2 ≤ maxLen ∧ (x.2 = 0 ∨ ∃ b pre sp, x.1 = some ⟨b, List.length pre, none⟩ ∧ List.length sp + n = x.2 ∧ k (some b) = some (false, .obj (.cells (pre ++ cs ++ sp).toArray e (0, 0)))))
    (fun k ⟨_, p, cap, h1⟩ => ⟨(p, cap), h1⟩)
  obtain ⟨h1, h2, h3⟩ := hs.out (φ := v = .slice p n cap ∧ n ≤ cap ∧ cap ≤ maxLen) (fun k hk => ⟨hk.1, hk.2.1, hk.2.2.1⟩)
  refine ⟨p, cap, h1, h2, h3, ?_⟩
  by_cases hc : cap = 0
  · exact .inl ⟨hc, hs.tail⟩
  · right
    obtain ⟨⟨b, pre, sp⟩, hs2⟩ := hs.outE (α := Nat × List Value × List Value) (B := fun x k => p = some ⟨x.1, List.length x.2.1, none⟩ ∧ List.length x.2.2 + n = cap ∧ k (some x.1) = some (false, .obj (.cells (x.2.1 ++ cs ++ x.2.2).toArray e (0, 0))))
      (fun k ⟨_, _, _, hk⟩ => let ⟨b, pre, sp, h4⟩ := hk.resolve_left hc; ⟨(b, pre, sp), h4⟩)
    obtain ⟨h4, h5⟩ := hs2.out (φ := p = some ⟨b, List.length pre, none⟩ ∧ List.length sp + n = cap) (fun k hk => ⟨hk.1, hk.2.1⟩)
    exact ⟨b, pre, sp, h4, h5, hs2.conv fun k hk => hk.2.2⟩
theorem Sat.q_block {w : World} {e b cap n : Nat} {pre cs sp : List Value} {L : List HP} (h : Sat w (pt b (.cells (pre ++ cs ++ sp).toArray e (0, 0)) :: L)) (h0 : cs.length = n) (h2 : cap ≤ maxLen) (h3 : sp.length + n = cap) :
    Sat w (OwnQ e (.slice (some ⟨b, pre.length, none⟩) n cap) n cs :: L) := h.conv fun _ hk => ⟨h0, _, cap, rfl, by omega, h2, .inr ⟨b, pre, sp, rfl, h3, hk⟩⟩
theorem ownQ_one {e : Nat} {v : Value} {n : Nat} {cs : List Value} {h : Part} (hk : OwnQ e v n cs h) : v.oneCell' = true := by
  obtain ⟨_, p, cap, rfl, _⟩ := hk; rfl
theorem ownQ_wide {e : Nat} {v : Value} {n : Nat} {cs : List Value} {h : Part} (hk : OwnQ e v n cs h) : ∃ p cap, v = .slice p n cap := by
  obtain ⟨_, p, cap, rfl, _⟩ := hk; exact ⟨p, cap, rfl⟩

theorem setCells_far {g : Nat} : ∀ (vs : List Value) (o : Nat) (w : World) (k : Nat), k ≠ g → (w.setCells g o vs).heap[k]? = w.heap[k]?
  | [], _, _, _, _ => rfl
  | v :: r, o, w, k, hk => by
    rw [World.setCells, setCells_far r (o + 1) _ k hk]
    simp [World.setCell, Array.getElem?_modify, Ne.symm hk]
theorem setCells_same (g : Nat) : ∀ (vs : List Value) (o : Nat) (w : World), (w.setCells g o vs).os = w.os ∧ (w.setCells g o vs).tape = w.tape ∧ (w.setCells g o vs).output = w.output
  | [], _, _ => ⟨rfl, rfl, rfl⟩
  | v :: r, o, w => by
    obtain ⟨h1, h2, h3⟩ := setCells_same g r (o + 1) (w.setCell ⟨g, o, none⟩ v)
    rw [World.setCells]
    exact ⟨h1, h2, h3⟩
theorem setCells_row {g : Nat} {e : TypeId} : ∀ (vs : List Value) (pre mid post : List Value) (w : World), w.heap[g]? = some (.cells (pre ++ mid ++ post).toArray e (0, 0)) → mid.length = vs.length →
    (w.setCells g pre.length vs).heap[g]? = some (.cells (pre ++ vs ++ post).toArray e (0, 0))
  | [], pre, mid, post, w, h, hl => by
    have : mid = [] := by simpa using hl
    subst this
    exact h
  | v :: r, pre, mid, post, w, h, hl => by
    obtain ⟨m, mid, rfl⟩ : ∃ m l, mid = m :: l := by cases mid with | nil => simp at hl | cons m l => exact ⟨m, l, rfl⟩
    rw [World.setCells]
    have h2 : (w.setCell ⟨g, pre.length, none⟩ v).heap[g]? = some (.cells ((pre ++ [v]) ++ mid ++ post).toArray e (0, 0)) := by
      simp [World.setCell, Array.getElem?_modify, h]
    have h3 := setCells_row r (pre ++ [v]) mid post _ h2 (by simpa using hl)
    rw [List.length_append, List.length_singleton] at h3
    rw [h3]; simp

theorem sat_appendQ {P : Program} {w : World} {L : List HP} {t e ty k : Nat} {z : Value} (ht : P.underlying t = some (.slice e)) [TI P e z 1 k] (hzs : z.cells.size = 1) {v : Value} {n : Nat} {cs : List Value}
    (hs : Sat w (OwnQ e v n cs :: L)) {p : Option Addr} {m c : Nat} {news : List Value} (hl : news.length = m) (hr : m = 0 ∨ ∃ a, p = some a ∧ ∀ j u, news[j]? = some u → w.cell? (a.add j) = some u) (h1 : ∀ u ∈ news, u.oneCell' = true)
    (hb : (n + m) * k ≤ 140737488355328) (hk : 0 < k) :
    ∃ v' w', (Builtin.append_ #[t, t] ty #[v, .slice p m c]).run P w = .ok v' w' ∧ Sat w' (OwnQ e v' (n + m) (cs ++ news) :: L) := by
  obtain ⟨i, hi, hz, hsize, hbytes⟩ := TI.h (P := P) (t := e) (z := z) (n := 1) (b := k)
  have hnm : n + m ≤ (n + m) * k := Nat.le_mul_of_pos_right _ hk
  have hml : n + m ≤ maxLen := by simp [maxLen]; omega
  obtain ⟨h0, q, cap, rfl, hle, hcm, hcase⟩ := hs.q_cases
  by_cases hm : m = 0
  · subst hm
    have hnews : news = [] := by simpa using hl
    subst hnews
    exact ⟨_, w, append_nothing ht hi q n cap hle _ ⟨p, c, rfl⟩, by simpa using hs⟩
  · obtain ⟨a, rfl, hr2⟩ := hr.resolve_left hm
    have hl' : news.length = m * i.size := by rw [hsize]; omega
    by_cases hfit : n + m ≤ cap
    · obtain ⟨b, pre, sp, rfl, hsp, hs'⟩ := (hcase.resolve_left (by omega))
      have hhp := hs'.pt_heap
      have hcell : ∀ j, j < news.length → (w.cell? ⟨b, pre.length + n * i.size + j, none⟩).isSome = true := fun j hj => by
        rw [hsize]
        have : (pre ++ cs ++ sp)[pre.length + n * 1 + j]? = some ((pre ++ cs ++ sp)[pre.length + n * 1 + j]'(by simp; omega)) := List.getElem?_eq_getElem _
        rw [cell_of hhp this]; rfl
      have hroom := run_append_room_cells (P := P) w t ty e i ht hi b pre.length n cap a m c news hl' hr2 h1 hfit hcell (fun j hj => by simp [World.frozen?, hhp])
      refine ⟨_, _, hroom, ?_⟩
      rw [hsize, Nat.mul_one]
      have hsplit : pre ++ cs ++ sp = (pre ++ cs) ++ sp.take m ++ sp.drop m := by simp
      have hrow := setCells_row (g := b) (e := e) news (pre ++ cs) (sp.take m) (sp.drop m) w (by rw [← hsplit]; exact hhp) (by simp; omega)
      have hlen : (pre ++ cs).length = pre.length + n := by simp [h0]
      rw [hlen] at hrow
      obtain ⟨e1, e2, e3⟩ := setCells_same b news (pre.length + n) w
      have hs3 := hs'.grown (w' := w.setCells b (pre.length + n) news) e1 e2 e3 (fun k hk hne => setCells_far news _ w k hne) hrow
      rw [List.append_assoc pre cs news] at hs3
      refine Sat.q_block hs3 ?_ hcm ?_
      · simp [h0, hl]
      · simp; omega
    · have hold : ∀ j u, cs[j]? = some u → w.cell? ((q.getD ⟨0, 0, none⟩).add j) = some u := fun j u hj => by
        rcases hcase with ⟨hc0, _⟩ | ⟨b, pre, sp, rfl, hsp, hs'⟩
        · have : cs = [] := by apply List.eq_nil_of_length_eq_zero; omega
          subst this; simp at hj
        · have hj2 := (List.getElem?_eq_some_iff.1 hj).1
          simp only [Option.getD_some, addr_add]
          refine cell_of hs'.pt_heap ?_
          rw [List.append_assoc, List.getElem?_append_right (by omega), Nat.add_sub_cancel_left, List.getElem?_append_left hj2]
          exact hj
      have hsL : Sat w L := by rcases hcase with ⟨_, h⟩ | ⟨_, _, _, _, _, h⟩; exact h; exact h.tail
      have hge := grownCap_ge w (n + m) cap e
      have hmx := grownCap_le_maxLen w (n + m) cap e hml
      have hnew := (hsL.world (w' := w.drew) rfl).new (.cells (cs ++ news ++ (Builtin.zeroCells z.cells (grownCap w (n + m) cap e - (n + m))).toList).toArray e)
      have hsz2 : w.drew.heap.size = w.heap.size := rfl
      rw [hsz2] at hnew
      have hcells : (cs ++ news ++ (Builtin.zeroCells z.cells (grownCap w (n + m) cap e - (n + m))).toList).toArray = cs.toArray ++ news.toArray ++ Builtin.zeroCells z.cells (grownCap w (n + m) cap e - (n + m)) := by apply Array.ext'; simp
      have hq := Sat.q_block (pre := []) (n := n + m) (cap := grownCap w (n + m) cap e) (cs := cs ++ news) (sp := (Builtin.zeroCells z.cells (grownCap w (n + m) cap e - (n + m))).toList) hnew (by simp [h0, hl]) hmx (by rw [length_cells_pos hzs]; omega)
      rw [hcells] at hq
      by_cases hq0 : q = none
      · subst hq0
        have hc0 : cap = 0 := by
          rcases hcase with ⟨h, _⟩ | ⟨_, _, _, h, _⟩
          · exact h
          · cases h
        subst hc0
        have hn0 : n = 0 := by omega
        subst hn0
        have hcs : cs = [] := List.eq_nil_of_length_eq_zero h0
        subst hcs
        have hrun := run_append_nil (P := P) w t ty e i z ht hi hz a m c news hl' hr2 (by omega) (by omega) (by rw [hbytes]; simp only [Nat.zero_add] at hb; omega)
        refine ⟨_, _, hrun, ?_⟩
        simp only [Nat.zero_add, List.nil_append, Array.empty_append] at hq ⊢
        exact hq
      · obtain ⟨qa, rfl⟩ := Option.ne_none_iff_exists'.1 hq0
        have hgrow := run_append_grow (P := P) w t ty e i z ht hi hz qa n cap cs (by rw [hsize]; omega) hold a m c news hl' hr2 (by omega) (by omega) (growslice_fits (by omega) (by rw [hbytes]; exact hb))
        exact ⟨_, _, hgrow, hq⟩
/-- All but the first ones. -/
theorem sat_sliceQ {P : Program} {w : World} {L : List HP} {t e k j : Nat} {z : Value} (ht : P.underlying t = some (.slice e)) [TI P e z 1 k] {v : Value} {n : Nat} {cs : List Value} (hs : Sat w (OwnQ e v n cs :: L)) (hj : j ≤ n) (ik : IntKind) :
    ∃ v', (Instr.slice t v (some (.int ik (j : Int))) none none).run P w = .ok v' w ∧ Sat w (OwnQ e v' (n - j) (cs.drop j) :: L) := by
  obtain ⟨i, hi, hz, hsize, hbytes⟩ := TI.h (P := P) (t := e) (z := z) (n := 1) (b := k)
  obtain ⟨h0, q, cap, rfl, hle, hcm, hcase⟩ := hs.q_cases
  refine ⟨.slice (if cap = j then q else q.map (·.add (j * i.size))) (n - j) (cap - j), ?_, ?_⟩
  · simp [Instr.slice, Instr.sliceBounds, run_underlying ht, run_sliceBound _ ik (j : Int) n _ (by omega) (by omega), run_sizeOf' hi]
  · rcases hcase with ⟨hc0, hs'⟩ | ⟨b, pre, sp, rfl, hsp, hs'⟩
    · exact hs'.add ⟨by simp; omega, _, _, rfl, by omega, by omega, .inl (by omega)⟩
    · by_cases hcj : cap = j
      · rw [if_pos hcj]
        exact hs'.tail.add ⟨by simp; omega, _, _, rfl, by omega, by omega, .inl (by omega)⟩
      · rw [if_neg hcj, hsize, Nat.mul_one, Option.map_some, addr_add]
        have e1 : pre ++ cs ++ sp = (pre ++ cs.take j) ++ cs.drop j ++ sp := by simp
        rw [e1] at hs'
        have := Sat.q_block (n := n - j) (cap := cap - j) hs' (by simp; omega) (by omega) (by omega)
        have e2 : (pre ++ cs.take j).length = pre.length + j := by simp; omega
        rw [e2] at this
        exact this
class TkQ (v : Value) (L : List HP) (e n : outParam Nat) (cs : outParam (List Value)) (M : outParam (List HP)) : Prop where h : L.Perm (OwnQ e v n cs :: M)
instance tkq_head (v : Value) (e n : Nat) (cs : List Value) (L : List HP) : TkQ v (OwnQ e v n cs :: L) e n cs L := ⟨.refl _⟩
instance (priority := low) tkq_tail (v : Value) (A : HP) (e n : Nat) (cs : List Value) (L M : List HP) [h : TkQ v L e n cs M] : TkQ v (A :: L) e n cs (A :: M) := ⟨(h.h.cons A).trans (List.Perm.swap _ _ _)⟩

section
variable {P : Program} {N : Nat} {rd : Option Nat} {E : Env} {D : List Deferred} {L : List HP} {Q : Post} {next : Env → List Deferred → List HP → Prop}
variable {d : Option Nat} {ty : TypeId} {pos : String} {after : Array Edge} {g : Option (Nat × Bool)}
theorem JO_appendQ {x y : Operand} {t e n m k : Nat} [TU P t (.slice e)] {z : Value} [TI P e z 1 k] {v u : Value} {cs news : List Value} {M : List HP} (hx : ev E x = some v) (hy : ev E y = some u)
    [ho : TkQ v L e n cs M] (hr : Rds L u m news) (hzs : z.cells.size = 1) (hl : news.length = m) (h1 : ∀ u ∈ news, u.oneCell' = true) (hb : (n + m) * k ≤ 140737488355328) (hk : 0 < k)
    (hd : dok N d = true) (h : ∀ v', v'.oneCell' = true → next (put E d v') D (OwnQ e v' (n + m) (cs ++ news) :: M)) : JO P N rd ⟨d, .call ⟨.builtin .append, #[x, y], #[t, t]⟩, ty, pos, after, g⟩ E D L next Q :=
  JO_value (fun c => by simp) hd fun F a w hr' hs => by
    obtain ⟨p, c, rfl, hrd⟩ := hr
    have hs1 : Sat w (OwnQ e v n cs :: F :: M) := (hs.perm (ho.h.cons F)).swap
    obtain ⟨v', w', h2, h3⟩ := sat_appendQ (P := P) (t := t) (ty := ty) (c := c) TU.h hzs hs1 hl (hrd F w hs) h1 hb hk
    exact ⟨v', w', _, by simp [execOp, resolve, invoke, builtin, hr'.eval hx, hr'.eval hy, h2], h3.swap, h v' (h3.out fun _ hk => ownQ_one hk)⟩
theorem JO_sliceQ {x lo : Operand} {t e n j k : Nat} [TU P t (.slice e)] {z : Value} [TI P e z 1 k] {v : Value} {cs : List Value} {M : List HP} {ik : IntKind} (hx : ev E x = some v) (hlo : ev E lo = some (.int ik (j : Int))) [ho : TkQ v L e n cs M] (hj : j ≤ n)
    (hd : dok N d = true) (h : ∀ v', v'.oneCell' = true → next (put E d v') D (OwnQ e v' (n - j) (cs.drop j) :: M)) : JO P N rd ⟨d, .slice t x (some lo) none none, ty, pos, after, g⟩ E D L next Q :=
  JO_value (fun c => by simp) hd fun F a w hr' hs => by
    have hs1 : Sat w (OwnQ e v n cs :: F :: M) := (hs.perm (ho.h.cons F)).swap
    obtain ⟨v', h2, h3⟩ := sat_sliceQ (P := P) (t := t) TU.h hs1 hj ik
    have h5 : (Instr.sliceAt t v (some (.int ik (j : Int))) none none).run P w = (Instr.slice t v (some (.int ik (j : Int))) none none).run P w := by simp [Instr.sliceAt, run_underlying' (TU.h (P := P) (t := t))]
    exact ⟨v', w, _, by simp [execOp, hr'.eval hx, hr'.eval hlo, h5, h2], h3.swap, h v' (h3.out fun _ hk => ownQ_one hk)⟩
theorem JO_lenQ {x : Operand} {t e n : Nat} [TU P t (.slice e)] {v : Value} {cs : List Value} {M : List HP} {e' : Nat} (hx : ev E x = some v) [ho : TkQ v L e' n cs M] (hd : dok N d = true) (h : next (put E d (.int .i64 (n : Int))) D L) :
    JO P N rd ⟨d, .call ⟨.builtin .len, #[x], #[t]⟩, ty, pos, after, g⟩ E D L next Q := by
  intro F a w hr hs
  obtain ⟨p, cap, rfl⟩ := (hs.perm (ho.h.cons F)).swap.out fun _ hk => ownQ_wide hk
  exact JO_len (e := e) hx hd h F a w hr hs
theorem JO_indexQ {t e n j k : Nat} [TU P t (.slice e)] {z : Value} [TI P e z 1 k] {x y : Operand} {v : Value} {cs : List Value} {M : List HP} {ik : IntKind} (hx : ev E x = some v) (hy : ev E y = some (.int ik (j : Int))) [ho : TkQ v L e n cs M] (u : Value) (hu : cs[j]? = some u)
    (hd : dok N d = true) (h : ∀ b o, Lds L ⟨b, o, none⟩ u → next (put E d (.pointer (some ⟨b, o, none⟩))) D L) : JO P N rd ⟨d, .indexAddr t x y, ty, pos, after, g⟩ E D L next Q := by
  intro F a w hr hs
  have hs1 : Sat w (OwnQ e v n cs :: F :: M) := (hs.perm (ho.h.cons F)).swap
  obtain ⟨h0, q, cap, rfl, hle, hcm, hcase⟩ := hs1.q_cases
  have hj := (List.getElem?_eq_some_iff.1 hu).1
  obtain ⟨b, pre, sp, rfl, hsp, hs'⟩ := hcase.resolve_left (by omega)
  refine JO_index hx hy (by omega) hd (h b (pre.length + j * 1) fun F' w' hs2 => ?_) F a w hr hs
  have hs3 : Sat w' (OwnQ e (.slice (some ⟨b, pre.length, none⟩) n cap) n cs :: F' :: M) := (hs2.perm (ho.h.cons F')).swap
  obtain ⟨_, q', cap', hv', _, _, hcase'⟩ := hs3.q_cases
  cases hv'
  obtain ⟨b', pre', sp', hb', _, hs4⟩ := hcase'.resolve_left (by omega)
  simp only [Option.some.injEq, Addr.mk.injEq] at hb'
  obtain ⟨rfl, hpl, _⟩ := hb'
  refine cell_of hs4.pt_heap ?_
  rw [hpl, Nat.mul_one, List.append_assoc, List.getElem?_append_right (by omega), Nat.add_sub_cancel_left, List.getElem?_append_left hj]
  exact hu
end
end Go.Sp
