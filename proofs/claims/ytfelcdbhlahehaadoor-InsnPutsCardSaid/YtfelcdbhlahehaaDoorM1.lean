/- Rows that are taken from at the front and added to at the back. -/
import Derived.Test.YtfelcdbhlahehaaDoorM0
import Derived.ArgAppend
import Derived.Scope
import Derived.OrdersIn
import Derived.OrdersHeld
import Derived.RecoverIn
import Derived.Laws.IdiomStrings
import Derived.Laws.AppendOwn
import Derived.Laws.BytesArg
import Derived.Lib.AppendStr
namespace Go.Sp
open Go.RowKit

def OwnQ (e : Nat) (v : Value) (n : Nat) (cs : List Value) : HP := fun h => cs.length = n ∧ ∃ p cap, v = .slice p n cap ∧ n ≤ cap ∧ cap ≤ maxLen ∧
  (cap = 0 ∨ ∃ b pre sp, p = some ⟨b, List.length pre, none⟩ ∧ List.length sp + n = cap ∧ h (some b) = some (false, .obj (.cells (pre ++ cs ++ sp).toArray e (0, 0))))
theorem ownQ_of {e : Nat} {v : Value} {n : Nat} {cs : List Value} (h : Part) (hk : OwnS e 1 v n cs h) : OwnQ e v n cs h := by
  obtain ⟨h0, ⟨rfl, rfl⟩ | ⟨b, sp, cap, rfl, h1, h2, h3, h4⟩⟩ := hk
  · exact ⟨by simpa using h0, none, 0, rfl, Nat.le_refl _, Nat.zero_le _, .inl rfl⟩
  · exact ⟨by omega, _, cap, rfl, h1, h2, .inr ⟨b, [], sp, rfl, by omega, by simpa using h4⟩⟩
theorem Sat.ownQ {w : World} {e : Nat} {v : Value} {n : Nat} {cs : List Value} {L : List HP} (h : Sat w (OwnS e 1 v n cs :: L)) : Sat w (OwnQ e v n cs :: L) := h.conv ownQ_of
theorem Sat.q_cases {w : World} {e : Nat} {v : Value} {n : Nat} {cs : List Value} {L : List HP} (h : Sat w (OwnQ e v n cs :: L)) :
    cs.length = n ∧ ∃ p cap, v = .slice p n cap ∧ n ≤ cap ∧ cap ≤ maxLen ∧ ((cap = 0 ∧ Sat w L) ∨ ∃ b pre sp, p = some ⟨b, List.length pre, none⟩ ∧ List.length sp + n = cap ∧ Sat w (pt b (.cells (pre ++ cs ++ sp).toArray e (0, 0)) :: L)) := by
  have h0 : cs.length = n := h.out (fun _ hk => hk.1)
  refine ⟨h0, ?_⟩
  obtain ⟨⟨p, cap⟩, hs⟩ := h.outE (α := Option Addr × Nat) (B := fun x k => v = .slice x.1 n x.2 ∧ n ≤ x.2 ∧ x.2 ≤ maxLen ∧ (x.2 = 0 ∨ ∃ b pre sp, x.1 = some ⟨b, List.length pre, none⟩ ∧ List.length sp + n = x.2 ∧ k (some b) = some (false, .obj (.cells (pre ++ cs ++ sp).toArray e (0, 0)))))
    (fun k ⟨_, p, cap, h1⟩ => ⟨(p, cap), h1⟩)
  obtain ⟨h1, h2, h3⟩ := hs.out (φ := v = .slice p n cap ∧ n ≤ cap ∧ cap ≤ maxLen) (fun k hk => ⟨hk.1, hk.2.1, hk.2.2.1⟩)
  refine ⟨p, cap, h1, h2, h3, ?_⟩
  by_cases hc : cap = 0
  · exact .inl ⟨hc, hs.tail⟩
  · right
    obtain ⟨⟨b, pre, sp⟩, hs2⟩ := hs.outE (α := Nat × List Value × List Value) (B := fun x k => p = some ⟨x.1, List.length x.2.1, none⟩ ∧ List.length x.2.2 + n = cap ∧ k (some x.1) = some (false, .obj (.cells (x.2.1 ++ cs ++ x.2.2).toArray e (0, 0))))
      (fun k ⟨_, _, _, hk⟩ => let ⟨b, pre, sp, h4⟩ := hk.resolve_left hc; ⟨(b, pre, sp), h4⟩)
    obtain ⟨h4, h5⟩ := hs2.out (φ := p = some ⟨b, List.length pre, none⟩ ∧ List.length sp + n = cap) (fun k hk => ⟨hk.1, hk.2.1⟩)
    exact ⟨b, pre, sp, h4, h5, hs2.conv fun k hk => hk.2.2⟩
theorem Sat.q_block {w : World} {e b cap n : Nat} {pre cs sp : List Value} {L : List HP} (h : Sat w (pt b (.cells (pre ++ cs ++ sp).toArray e (0, 0)) :: L)) (h0 : cs.length = n) (h2 : cap ≤ maxLen) (h3 : sp.length + n = cap) :
    Sat w (OwnQ e (.slice (some ⟨b, pre.length, none⟩) n cap) n cs :: L) := h.conv fun _ hk => ⟨h0, _, cap, rfl, by omega, h2, .inr ⟨b, pre, sp, rfl, h3, hk⟩⟩
theorem ownQ_one {e : Nat} {v : Value} {n : Nat} {cs : List Value} {h : Part} (hk : OwnQ e v n cs h) : v.oneCell' = true := by
  obtain ⟨_, p, cap, rfl, _⟩ := hk; rfl
theorem ownQ_wide {e : Nat} {v : Value} {n : Nat} {cs : List Value} {h : Part} (hk : OwnQ e v n cs h) : ∃ p cap, v = .slice p n cap := by
  obtain ⟨_, p, cap, rfl, _⟩ := hk; exact ⟨p, cap, rfl⟩

theorem setCells_far {g : Nat} : ∀ (vs : List Value) (o : Nat) (w : World) (k : Nat), k ≠ g → (w.setCells g o vs).heap[k]? = w.heap[k]?
  | [], _, _, _, _ => rfl
  | v :: r, o, w, k, hk => by
    rw [World.setCells, setCells_far r (o + 1) _ k hk]
    simp [World.setCell, Array.getElem?_modify, Ne.symm hk]
theorem setCells_same (g : Nat) : ∀ (vs : List Value) (o : Nat) (w : World), (w.setCells g o vs).os = w.os ∧ (w.setCells g o vs).tape = w.tape ∧ (w.setCells g o vs).output = w.output
  | [], _, _ => ⟨rfl, rfl, rfl⟩
  | v :: r, o, w => by
    obtain ⟨h1, h2, h3⟩ := setCells_same g r (o + 1) (w.setCell ⟨g, o, none⟩ v)
    rw [World.setCells]
    exact ⟨h1, h2, h3⟩
theorem setCells_row {g : Nat} {e : TypeId} : ∀ (vs : List Value) (pre mid post : List Value) (w : World), w.heap[g]? = some (.cells (pre ++ mid ++ post).toArray e (0, 0)) → mid.length = vs.length →
    (w.setCells g pre.length vs).heap[g]? = some (.cells (pre ++ vs ++ post).toArray e (0, 0))
  | [], pre, mid, post, w, h, hl => by
    have : mid = [] := by simpa using hl
    subst this
    exact h
  | v :: r, pre, mid, post, w, h, hl => by
    obtain ⟨m, mid, rfl⟩ : ∃ m l, mid = m :: l := by cases mid with | nil => simp at hl | cons m l => exact ⟨m, l, rfl⟩
    rw [World.setCells]
    have h2 : (w.setCell ⟨g, pre.length, none⟩ v).heap[g]? = some (.cells ((pre ++ [v]) ++ mid ++ post).toArray e (0, 0)) := by
      simp [World.setCell, Array.getElem?_modify, h]
    have h3 := setCells_row r (pre ++ [v]) mid post _ h2 (by simpa using hl)
    rw [List.length_append, List.length_singleton] at h3
    rw [h3]; simp

theorem sat_appendQ {P : Program} {w : World} {L : List HP} {t e ty k : Nat} {z : Value} (ht : P.underlying t = some (.slice e)) [TI P e z 1 k] (hzs : z.cells.size = 1) {v : Value} {n : Nat} {cs : List Value}
    (hs : Sat w (OwnQ e v n cs :: L)) {p : Option Addr} {m c : Nat} {news : List Value} (hl : news.length = m) (hr : m = 0 ∨ ∃ a, p = some a ∧ ∀ j u, news[j]? = some u → w.cell? (a.add j) = some u) (h1 : ∀ u ∈ news, u.oneCell' = true)
    (hb : (n + m) * k ≤ 140737488355328) (hk : 0 < k) :
    ∃ v' w', (Builtin.append_ #[t, t] ty #[v, .slice p m c]).run P w = .ok v' w' ∧ Sat w' (OwnQ e v' (n + m) (cs ++ news) :: L) := by
  obtain ⟨i, hi, hz, hsize, hbytes⟩ := TI.h (P := P) (t := e) (z := z) (n := 1) (b := k)
  have hnm : n + m ≤ (n + m) * k := Nat.le_mul_of_pos_right _ hk
  have hml : n + m ≤ maxLen := by simp [maxLen]; omega
  obtain ⟨h0, q, cap, rfl, hle, hcm, hcase⟩ := hs.q_cases
  by_cases hm : m = 0
  · subst hm
    have hnews : news = [] := by simpa using hl
    subst hnews
    exact ⟨_, w, append_nothing ht hi q n cap hle _ ⟨p, c, rfl⟩, by simpa using hs⟩
  · obtain ⟨a, rfl, hr2⟩ := hr.resolve_left hm
    have hl' : news.length = m * i.size := by rw [hsize]; omega
    by_cases hfit : n + m ≤ cap
    · obtain ⟨b, pre, sp, rfl, hsp, hs'⟩ := (hcase.resolve_left (by omega))
      have hhp := hs'.pt_heap
      have hcell : ∀ j, j < news.length → (w.cell? ⟨b, pre.length + n * i.size + j, none⟩).isSome = true := fun j hj => by
        rw [hsize]
        have : (pre ++ cs ++ sp)[pre.length + n * 1 + j]? = some ((pre ++ cs ++ sp)[pre.length + n * 1 + j]'(by simp; omega)) := List.getElem?_eq_getElem _
        rw [cell_of hhp this]; rfl
      have hroom := run_append_room_cells (P := P) w t ty e i ht hi b pre.length n cap a m c news hl' hr2 h1 hfit hcell (fun j hj => by simp [World.frozen?, hhp])
      refine ⟨_, _, hroom, ?_⟩
      rw [hsize, Nat.mul_one]
      have hsplit : pre ++ cs ++ sp = (pre ++ cs) ++ sp.take m ++ sp.drop m := by simp
      have hrow := setCells_row (g := b) (e := e) news (pre ++ cs) (sp.take m) (sp.drop m) w (by rw [← hsplit]; exact hhp) (by simp; omega)
      have hlen : (pre ++ cs).length = pre.length + n := by simp [h0]
      rw [hlen] at hrow
      obtain ⟨e1, e2, e3⟩ := setCells_same b news (pre.length + n) w
      have hs3 := hs'.grown (w' := w.setCells b (pre.length + n) news) e1 e2 e3 (fun k hk hne => setCells_far news _ w k hne) hrow
      rw [List.append_assoc pre cs news] at hs3
      refine Sat.q_block hs3 ?_ hcm ?_
      · simp [h0, hl]
      · simp; omega
    · have hold : ∀ j u, cs[j]? = some u → w.cell? ((q.getD ⟨0, 0, none⟩).add j) = some u := fun j u hj => by
        rcases hcase with ⟨hc0, _⟩ | ⟨b, pre, sp, rfl, hsp, hs'⟩
        · have : cs = [] := by apply List.eq_nil_of_length_eq_zero; omega
          subst this; simp at hj
        · have hj2 := (List.getElem?_eq_some_iff.1 hj).1
          simp only [Option.getD_some, addr_add]
          refine cell_of hs'.pt_heap ?_
          rw [List.append_assoc, List.getElem?_append_right (by omega), Nat.add_sub_cancel_left, List.getElem?_append_left hj2]
          exact hj
      have hsL : Sat w L := by rcases hcase with ⟨_, h⟩ | ⟨_, _, _, _, _, h⟩; exact h; exact h.tail
      have hge := grownCap_ge w (n + m) cap e
      have hmx := grownCap_le_maxLen w (n + m) cap e hml
      have hnew := (hsL.world (w' := w.drew) rfl).new (.cells (cs ++ news ++ (Builtin.zeroCells z.cells (grownCap w (n + m) cap e - (n + m))).toList).toArray e)
      have hsz2 : w.drew.heap.size = w.heap.size := rfl
      rw [hsz2] at hnew
      have hcells : (cs ++ news ++ (Builtin.zeroCells z.cells (grownCap w (n + m) cap e - (n + m))).toList).toArray = cs.toArray ++ news.toArray ++ Builtin.zeroCells z.cells (grownCap w (n + m) cap e - (n + m)) := by apply Array.ext'; simp
      have hq := Sat.q_block (pre := []) (n := n + m) (cap := grownCap w (n + m) cap e) (cs := cs ++ news) (sp := (Builtin.zeroCells z.cells (grownCap w (n + m) cap e - (n + m))).toList) hnew (by simp [h0, hl]) hmx (by rw [length_cells_pos hzs]; omega)
      rw [hcells] at hq
      by_cases hq0 : q = none
      · subst hq0
        have hc0 : cap = 0 := by
          rcases hcase with ⟨h, _⟩ | ⟨_, _, _, h, _⟩
          · exact h
          · cases h
        subst hc0
        have hn0 : n = 0 := by omega
        subst hn0
        have hcs : cs = [] := List.eq_nil_of_length_eq_zero h0
        subst hcs
        have hrun := run_append_nil (P := P) w t ty e i z ht hi hz a m c news hl' hr2 (by omega) (by omega) (by rw [hbytes]; simp only [Nat.zero_add] at hb; omega)
        refine ⟨_, _, hrun, ?_⟩
        simp only [Nat.zero_add, List.nil_append, Array.empty_append] at hq ⊢
        exact hq
      · obtain ⟨qa, rfl⟩ := Option.ne_none_iff_exists'.1 hq0
        have hgrow := run_append_grow (P := P) w t ty e i z ht hi hz qa n cap cs (by rw [hsize]; omega) hold a m c news hl' hr2 (by omega) (by omega) (growslice_fits (by omega) (by rw [hbytes]; exact hb))
        exact ⟨_, _, hgrow, hq⟩
/-- All but the first ones. -/
theorem sat_sliceQ {P : Program} {w : World} {L : List HP} {t e k j : Nat} {z : Value} (ht : P.underlying t = some (.slice e)) [TI P e z 1 k] {v : Value} {n : Nat} {cs : List Value} (hs : Sat w (OwnQ e v n cs :: L)) (hj : j ≤ n) (ik : IntKind) :
    ∃ v', (Instr.slice t v (some (.int ik (j : Int))) none none).run P w = .ok v' w ∧ Sat w (OwnQ e v' (n - j) (cs.drop j) :: L) := by
  obtain ⟨i, hi, hz, hsize, hbytes⟩ := TI.h (P := P) (t := e) (z := z) (n := 1) (b := k)
  obtain ⟨h0, q, cap, rfl, hle, hcm, hcase⟩ := hs.q_cases
  refine ⟨.slice (if cap = j then q else q.map (·.add (j * i.size))) (n - j) (cap - j), ?_, ?_⟩
  · simp [Instr.slice, Instr.sliceBounds, run_underlying ht, run_sliceBound _ ik (j : Int) n _ (by omega) (by omega), run_sizeOf' hi]
  · rcases hcase with ⟨hc0, hs'⟩ | ⟨b, pre, sp, rfl, hsp, hs'⟩
    · exact hs'.add ⟨by simp; omega, _, _, rfl, by omega, by omega, .inl (by omega)⟩
    · by_cases hcj : cap = j
      · rw [if_pos hcj]
        exact hs'.tail.add ⟨by simp; omega, _, _, rfl, by omega, by omega, .inl (by omega)⟩
      · rw [if_neg hcj, hsize, Nat.mul_one, Option.map_some, addr_add]
        have e1 : pre ++ cs ++ sp = (pre ++ cs.take j) ++ cs.drop j ++ sp := by simp
        rw [e1] at hs'
        have := Sat.q_block (n := n - j) (cap := cap - j) hs' (by simp; omega) (by omega) (by omega)
        have e2 : (pre ++ cs.take j).length = pre.length + j := by simp; omega
        rw [e2] at this
        exact this
class TkQ (v : Value) (L : List HP) (e n : outParam Nat) (cs : outParam (List Value)) (M : outParam (List HP)) : Prop where h : L.Perm (OwnQ e v n cs :: M)
instance tkq_head (v : Value) (e n : Nat) (cs : List Value) (L : List HP) : TkQ v (OwnQ e v n cs :: L) e n cs L := ⟨.refl _⟩
instance (priority := low) tkq_tail (v : Value) (A : HP) (e n : Nat) (cs : List Value) (L M : List HP) [h : TkQ v L e n cs M] : TkQ v (A :: L) e n cs (A :: M) := ⟨(h.h.cons A).trans (List.Perm.swap _ _ _)⟩

section
variable {P : Program} {N : Nat} {rd : Option Nat} {E : Env} {D : List Deferred} {L : List HP} {Q : Post} {next : Env → List Deferred → List HP → Prop}
variable {d : Option Nat} {ty : TypeId} {pos : String} {after : Array Edge} {g : Option (Nat × Bool)}
theorem JO_appendQ {x y : Operand} {t e n m k : Nat} [TU P t (.slice e)] {z : Value} [TI P e z 1 k] {v u : Value} {cs news : List Value} {M : List HP} (hx : ev E x = some v) (hy : ev E y = some u)
    [ho : TkQ v L e n cs M] (hr : Rds L u m news) (hzs : z.cells.size = 1) (hl : news.length = m) (h1 : ∀ u ∈ news, u.oneCell' = true) (hb : (n + m) * k ≤ 140737488355328) (hk : 0 < k)
    (hd : dok N d = true) (h : ∀ v', v'.oneCell' = true → next (put E d v') D (OwnQ e v' (n + m) (cs ++ news) :: M)) : JO P N rd ⟨d, .call ⟨.builtin .append, #[x, y], #[t, t]⟩, ty, pos, after, g⟩ E D L next Q :=
  JO_value (fun c => by simp) hd fun F a w hr' hs => by
    obtain ⟨p, c, rfl, hrd⟩ := hr
    have hs1 : Sat w (OwnQ e v n cs :: F :: M) := (hs.perm (ho.h.cons F)).swap
    obtain ⟨v', w', h2, h3⟩ := sat_appendQ (P := P) (t := t) (ty := ty) (c := c) TU.h hzs hs1 hl (hrd F w hs) h1 hb hk
    exact ⟨v', w', _, by simp [execOp, resolve, invoke, builtin, hr'.eval hx, hr'.eval hy, h2], h3.swap, h v' (h3.out fun _ hk => ownQ_one hk)⟩
theorem JO_sliceQ {x lo : Operand} {t e n j k : Nat} [TU P t (.slice e)] {z : Value} [TI P e z 1 k] {v : Value} {cs : List Value} {M : List HP} {ik : IntKind} (hx : ev E x = some v) (hlo : ev E lo = some (.int ik (j : Int))) [ho : TkQ v L e n cs M] (hj : j ≤ n)
    (hd : dok N d = true) (h : ∀ v', v'.oneCell' = true → next (put E d v') D (OwnQ e v' (n - j) (cs.drop j) :: M)) : JO P N rd ⟨d, .slice t x (some lo) none none, ty, pos, after, g⟩ E D L next Q :=
  JO_value (fun c => by simp) hd fun F a w hr' hs => by
    have hs1 : Sat w (OwnQ e v n cs :: F :: M) := (hs.perm (ho.h.cons F)).swap
    obtain ⟨v', h2, h3⟩ := sat_sliceQ (P := P) (t := t) TU.h hs1 hj ik
    have h5 : (Instr.sliceAt t v (some (.int ik (j : Int))) none none).run P w = (Instr.slice t v (some (.int ik (j : Int))) none none).run P w := by simp [Instr.sliceAt, run_underlying' (TU.h (P := P) (t := t))]
    exact ⟨v', w, _, by simp [execOp, hr'.eval hx, hr'.eval hlo, h5, h2], h3.swap, h v' (h3.out fun _ hk => ownQ_one hk)⟩
theorem JO_lenQ {x : Operand} {t e n : Nat} [TU P t (.slice e)] {v : Value} {cs : List Value} {M : List HP} {e' : Nat} (hx : ev E x = some v) [ho : TkQ v L e' n cs M] (hd : dok N d = true) (h : next (put E d (.int .i64 (n : Int))) D L) :
    JO P N rd ⟨d, .call ⟨.builtin .len, #[x], #[t]⟩, ty, pos, after, g⟩ E D L next Q := by
  intro F a w hr hs
  obtain ⟨p, cap, rfl⟩ := (hs.perm (ho.h.cons F)).swap.out fun _ hk => ownQ_wide hk
  exact JO_len (e := e) hx hd h F a w hr hs
theorem JO_indexQ {t e n j k : Nat} [TU P t (.slice e)] {z : Value} [TI P e z 1 k] {x y : Operand} {v : Value} {cs : List Value} {M : List HP} {ik : IntKind} (hx : ev E x = some v) (hy : ev E y = some (.int ik (j : Int))) [ho : TkQ v L e n cs M] (u : Value) (hu : cs[j]? = some u)
    (hd : dok N d = true) (h : ∀ b o, Lds L ⟨b, o, none⟩ u → next (put E d (.pointer (some ⟨b, o, none⟩))) D L) : JO P N rd ⟨d, .indexAddr t x y, ty, pos, after, g⟩ E D L next Q := by
  intro F a w hr hs
  have hs1 : Sat w (OwnQ e v n cs :: F :: M) := (hs.perm (ho.h.cons F)).swap
  obtain ⟨h0, q, cap, rfl, hle, hcm, hcase⟩ := hs1.q_cases
  have hj := (List.getElem?_eq_some_iff.1 hu).1
  obtain ⟨b, pre, sp, rfl, hsp, hs'⟩ := hcase.resolve_left (by omega)
  refine JO_index hx hy (by omega) hd (h b (pre.length + j * 1) fun F' w' hs2 => ?_) F a w hr hs
  have hs3 : Sat w' (OwnQ e (.slice (some ⟨b, pre.length, none⟩) n cap) n cs :: F' :: M) := (hs2.perm (ho.h.cons F')).swap
  obtain ⟨_, q', cap', hv', _, _, hcase'⟩ := hs3.q_cases
  cases hv'
  obtain ⟨b', pre', sp', hb', _, hs4⟩ := hcase'.resolve_left (by omega)
  simp only [Option.some.injEq, Addr.mk.injEq] at hb'
  obtain ⟨rfl, hpl, _⟩ := hb'
  refine cell_of hs4.pt_heap ?_
  rw [hpl, Nat.mul_one, List.append_assoc, List.getElem?_append_right (by omega), Nat.add_sub_cancel_left, List.getElem?_append_left hj]
  exact hu
end
end Go.Sp

/- Scopes (of labels that none goes to). -/
namespace Go.Sp
open Go.RowKit
section
variable {P : Program} {N : Nat} {E : Env} {D : List Deferred} {L : List HP} {Q : Post}
def noG (Q : Post) : Post
  | .goto _, _, _, _ => False
  | e, E, D, L => Q e E D L
theorem J_scope {c : Code} (h : J P N none c E D L (noG Q)) : J P N none (.scope c) E D L Q := by
  intro F a w hr hs
  have h1 : c.wp P (Exit.noGoto (lift N F Q)) a w := wpIn_wide.1 (wpIn_mono (h F a w hr hs) (by
    rintro e a w ⟨E, D, L, q, r, s⟩
    cases e with
    | goto l => exact q.elim
    | _ => exact ⟨E, D, L, q, r, s⟩))
  exact (wpIn_wide (n := 0)).2 (wp_scope_straight h1)
end
end Go.Sp

/- Regions that draw their order. -/
namespace Go.Sp
open Go.RowKit
/-- May the operation i come up now? -/
def rdy (ops : Array Oper) (ls : List Bool) (i : Nat) : Bool :=
  !ls.getD i true && ((ops.toList[i]?).map (·.after.toList.all fun e => !Region.binds .any e || ls.getD e.on false)).getD false
theorem rdy_eq {ops : Array Oper} {ls : List Bool} : Region.ready .any ops ls.toArray = (List.range ops.size).filter (rdy ops ls) := by
  unfold Region.ready
  congr 1
  funext i
  unfold rdy
  simp only [Array.getElem?_toList, Array.all_toList]
  simp
def idxs : List Oper → Nat → List Nat
  | [], _ => []
  | _ :: r, k => k :: idxs r (k + 1)
theorem idxs_eq : ∀ (l : List Oper) (k : Nat), idxs l k = List.range' k l.length
  | [], _ => rfl
  | _ :: r, k => by simp [idxs, idxs_eq r (k + 1), List.range'_succ]
theorem idxs_range (ops : Array Oper) : List.range ops.size = idxs ops.toList 0 := by rw [idxs_eq, List.range_eq_range', Array.length_toList]
def orL (f : Nat → Bool) : List Nat → Bool
  | [] => false
  | i :: r => match f i with | true => true | false => orL f r
theorem orL_eq (f : Nat → Bool) : ∀ l, orL f l = l.any f
  | [] => rfl
  | i :: r => by simp only [orL, List.any_cons]; cases f i <;> simp [orL_eq f r]
class Mixed (P : Program) : Prop where h : P.follows .mixedOrders = true
section
variable {P : Program} {N : Nat} {E : Env} {D : List Deferred} {L : List HP} {Q : Post}
variable (P N) in
def JA (ops : Array Oper) (fuel : Nat) (ls : List Bool) (E : Env) (D : List Deferred) (L : List HP) (Q : Post) : Prop :=
  ∀ (F : HP) (a : Act) (w : World), Rep N E D a → Sat w (F :: L) → wpAnyIn (FW none) 0 P .any ops (lift N F Q) fuel ls.toArray a w
variable (P N) in
def JA1 (ops : Array Oper) (fuel : Nat) (ls : List Bool) (i : Nat) (E : Env) (D : List Deferred) (L : List HP) (Q : Post) : Prop :=
  ∀ (F : HP) (a : Act) (w : World), Rep N E D a → Sat w (F :: L) → wpOpIn (FW none) 0 P ops (lift N F Q) i (wpAnyIn (FW none) 0 P .any ops (lift N F Q) fuel (ls.set i true).toArray) a w
variable (P N) in
def JAl (ops : Array Oper) (fuel : Nat) (ls : List Bool) (E : Env) (D : List Deferred) (L : List HP) (Q : Post) : List Nat → Prop
  | [] => True
  | i :: r => (match rdy ops ls i with | true => JA1 P N ops fuel ls i E D L Q | false => True) ∧ JAl ops fuel ls E D L Q r
theorem jal_mem {ops : Array Oper} {fuel : Nat} {ls : List Bool} : ∀ {r : List Nat}, JAl P N ops fuel ls E D L Q r → ∀ i ∈ r, rdy ops ls i = true → JA1 P N ops fuel ls i E D L Q := by
  intro r
  induction r with
  | nil => intro _ i hi; cases hi
  | cons j r ih =>
    rintro ⟨h1, h2⟩ i hi hr
    simp only [List.mem_cons] at hi
    rcases hi with rfl | hi
    · rw [hr] at h1; exact h1
    · exact ih h2 i hi hr
def cnt : List Oper → Nat
  | [] => 0
  | _ :: r => cnt r + 1
theorem cnt_eq : ∀ l : List Oper, cnt l = l.length
  | [] => rfl
  | _ :: r => by simp [cnt, cnt_eq r]
def flags : List Oper → List Bool
  | [] => []
  | _ :: r => false :: flags r
theorem flags_eq : ∀ l : List Oper, flags l = List.replicate l.length false
  | [] => rfl
  | _ :: r => by simp [flags, flags_eq r, List.replicate_succ]
theorem J_regionD [Mixed P] {id : Nat} {ops : Array Oper} (h : JA P N ops (cnt ops.toList) (flags ops.toList) E D L Q) : J P N none (.region id ops true) E D L Q := fun F a w hr hs => by
  refine wpIn_region_any Mixed.h ?_
  have := h F a { w with drawn := w.drawn + 1 } hr (hs.world rfl)
  rw [flags_eq, cnt_eq, List.toArray_replicate, Array.length_toList] at this
  exact this
theorem jal_nil {ops : Array Oper} {fuel : Nat} {ls : List Bool} : JAl P N ops fuel ls E D L Q [] := trivial
theorem jal_no {ops : Array Oper} {fuel i : Nat} {ls : List Bool} {r : List Nat} (h : rdy ops ls i = false) (h2 : JAl P N ops fuel ls E D L Q r) : JAl P N ops fuel ls E D L Q (i :: r) := ⟨by rw [h]; trivial, h2⟩
theorem jal_yes {ops : Array Oper} {fuel i : Nat} {ls : List Bool} {r : List Nat} (h : rdy ops ls i = true) (h1 : JA1 P N ops fuel ls i E D L Q) (h2 : JAl P N ops fuel ls E D L Q r) : JAl P N ops fuel ls E D L Q (i :: r) := ⟨by rw [h]; exact h1, h2⟩
theorem JA_step {ops : Array Oper} {fuel : Nat} {ls : List Bool} (hne : orL (rdy ops ls) (idxs ops.toList 0) = true) (h : JAl P N ops fuel ls E D L Q (idxs ops.toList 0)) : JA P N ops (fuel + 1) ls E D L Q := by
  rw [orL_eq] at hne
  rw [← idxs_range] at hne h
  intro F a w hr hs
  refine ⟨fun h0 => ?_, fun i hi => ?_⟩
  · exfalso
    rw [rdy_eq, List.filter_eq_nil_iff] at h0
    rw [List.any_eq_true] at hne
    obtain ⟨i, h1, h2⟩ := hne
    exact h0 i h1 h2
  · rw [rdy_eq, List.mem_filter] at hi
    have := jal_mem h i hi.1 hi.2 F a w hr hs
    rw [List.setIfInBounds_toArray]
    exact this
theorem JA_end {ops : Array Oper} {fuel : Nat} {ls : List Bool} (hne : orL (rdy ops ls) (idxs ops.toList 0) = false) (h : Q .normal E D L) : JA P N ops fuel ls E D L Q := by
  rw [orL_eq, ← idxs_range] at hne
  intro F a w hr hs
  have h0 : Region.ready .any ops ls.toArray = [] := by
    rw [rdy_eq, List.filter_eq_nil_iff]
    intro i hi hr
    rw [List.any_eq_false] at hne
    exact hne i hi hr
  cases fuel with
  | zero => exact ⟨h0, E, D, L, h, hr, hs⟩
  | succ fuel => exact ⟨fun _ => ⟨E, D, L, h, hr, hs⟩, fun i hi => by rw [h0] at hi; cases hi⟩
theorem JA_op {ops : Array Oper} {fuel i : Nat} {ls : List Bool} {o : Oper} (ho : ops.toList[i]? = some o) (hg : o.guard = none) (h : JO P N none o E D L (fun E' D' L' => JA P N ops fuel (ls.set i true) E' D' L' Q) Q) : JA1 P N ops fuel ls i E D L Q := by
  intro F a w hr hs
  rw [Array.getElem?_toList] at ho
  simp only [wpOpIn, ho, Region.wanted, hg, if_true]
  exact h F a w hr hs _ fun E' D' L' a' w' hn hr' hs' => hn F a' w' hr' hs'
theorem JA_take {ops : Array Oper} {fuel i : Nat} {ls : List Bool} {o : Oper} {j : Nat} {want : Bool} (ho : ops.toList[i]? = some o) (hg : o.guard = some (j, want)) (hv : gval ops E j = some want) (h : JO P N none o E D L (fun E' D' L' => JA P N ops fuel (ls.set i true) E' D' L' Q) Q) : JA1 P N ops fuel ls i E D L Q := by
  intro F a w hr hs
  rw [Array.getElem?_toList] at ho
  simp only [wpOpIn, ho, Region.wanted, hg, yielded_of hr hv, beq_self_eq_true, if_true]
  exact h F a w hr hs _ fun E' D' L' a' w' hn hr' hs' => hn F a' w' hr' hs'
theorem JA_pass {ops : Array Oper} {fuel i : Nat} {ls : List Bool} {o : Oper} {j : Nat} {want : Bool} (ho : ops.toList[i]? = some o) (hg : o.guard = some (j, want)) (hv : gval ops E j = some (!want)) (hd : dok N o.dst = true) (h : JA P N ops fuel (ls.set i true) (put E o.dst undef) D L Q) : JA1 P N ops fuel ls i E D L Q := by
  intro F a w hr hs
  rw [Array.getElem?_toList] at ho
  have h4 : (some (!want) == some want) = false := by cases want <;> rfl
  simp only [wpOpIn, ho, Region.wanted, hg, yielded_of hr hv, h4, if_false, Bool.false_eq_true]
  exact ⟨fun f _ => trivial, h F (a.put o.dst undef) w (hr.put hd undef) hs⟩
end
end Go.Sp

/- Regions that draw their order and write nothing: any order is as good as one. -/
namespace Go.Sp
open Go.RowKit
section
variable {P : Program} {N : Nat} {E : Env} {D : List Deferred} {L : List HP} {Q : Post}
variable (P N) in
/-- An operation that leaves a value in its slot and does nothing else. -/
def JQ (o : Oper) (E : Env) (D : List Deferred) (L : List HP) (v : Value) : Prop := ∀ (F : HP) (a : Act), Rep N E D a → ∀ w, Sat w (F :: L) → (execOp a.eval o).run P w = .ok (.value v) w
variable (P N) in
def JH (ops : Array Oper) (fuel : Nat) (ls : List Bool) (E : Env) (D : List Deferred) (L : List HP) (Q : Post) : Prop :=
  ∀ (F : HP) (a : Act) (w : World), Rep N E D a → Sat w (F :: L) → wpAnyH P .any ops (lift N F Q) (fun w => Sat w (F :: L)) fuel ls.toArray a w
/-- A post that no panic meets. -/
class CalmQ (Q : Post) : Prop where h : ∀ ch E D L, ¬ Q (.panic ch) E D L
instance calm_thn (K : Env → List Deferred → List HP → Prop) (Q : Post) [h : CalmQ Q] : CalmQ (thn K Q) := ⟨fun ch E D L q => h.h ch E D L q⟩
instance calm_inB (id : Nat) (Q : Post) [h : CalmQ Q] : CalmQ (inB id Q) := ⟨fun ch E D L q => h.h ch E D L q⟩
instance calm_retV (fn : Func) (v : Value) (L0 : List HP) : CalmQ (bodyQ P N fn fun e L => ∃ L', Ent L L' ∧ RetV v L0 e L') := ⟨fun ch E D L q => by
  obtain ⟨_, L', _, h1, _⟩ := q
  cases h1⟩
instance calm_retE {α : Type} (fn : Func) (φ : α → Prop) (v : α → Value) (L0 : α → List HP) : CalmQ (bodyQ P N fn fun e L => ∃ L', Ent L L' ∧ RetE φ v L0 e L') := ⟨fun ch E D L q => by
  obtain ⟨_, L', _, x, _, h1, _⟩ := q
  cases h1⟩
theorem J_regionH [Mixed P] {id : Nat} {ops : Array Oper} (h : JH P N ops (cnt ops.toList) (flags ops.toList) E D L Q) : J P N none (.region id ops true) E D L Q := fun F a w hr hs => by
  refine (wpIn_wide (n := 0)).2 (wp_region_held (S := fun w => Sat w (F :: L)) Mixed.h ?_)
  have := h F a { w with drawn := w.drawn + 1 } hr (hs.world rfl)
  rw [flags_eq, cnt_eq, List.toArray_replicate, Array.length_toList] at this
  exact this
theorem JH_take [hc : CalmQ Q] {ops : Array Oper} {fuel : Nat} {ls : List Bool} (i : Nat) {o : Oper} {v : Value} (ho : ops.toList[i]? = some o) (hg : o.guard = none) (hs : Region.noSelect ops = true) (hf : Region.free .any ops ls.toArray i = true)
    (hr : (Region.ready .any ops ls.toArray).contains i = true) (hd : dok N o.dst = true) (hq : JQ P N o E D L v) (h : JH P N ops fuel (ls.set i true) (put E o.dst v) D L Q) : JH P N ops (fuel + 1) ls E D L Q := by
  intro F a w hrep hsat
  rw [Array.getElem?_toList] at ho
  refine wpAnyH_take (v := v) ho hs hf hr ?_ (.inl ⟨by simp [Region.wanted, hg], fun w hw => hq F a hrep w hw⟩) hsat ?_
  · rintro c a' w' ⟨E', D', L', q, _⟩
    exact absurd q (hc.h c E' D' L')
  · have := h F (a.put o.dst v) w (hrep.put hd v) hsat
    rw [List.setIfInBounds_toArray]
    exact this
theorem JH_end {ops : Array Oper} {fuel : Nat} {ls : List Bool} (hr : Region.ready .any ops ls.toArray = []) (h : Q .normal E D L) : JH P N ops fuel ls E D L Q :=
  fun _ _ _ hrep hsat => wpAnyH_done hr ⟨E, D, L, h, hrep, hsat⟩ fuel
section
variable {d : Option Nat} {ty : TypeId} {pos : String} {after : Array Edge} {g : Option (Nat × Bool)}
theorem JQ_move {x : Operand} {v : Value} (hx : ev E x = some v) : JQ P N ⟨d, .move x, ty, pos, after, g⟩ E D L v := fun F a hr w hs => by simp [execOp, hr.eval hx]
theorem JQ_load {t : TypeId} [T1 P t] {x : Operand} {p : Addr} {v : Value} (hx : ev E x = some (.pointer (some p))) (hl : Lds L p v) : JQ P N ⟨d, .load t x, ty, pos, after, g⟩ E D L v := fun F a hr w hs => by
  simp [execOp, Instr.loadAt, Instr.sureAddr, hr.eval hx, loadVar, run_isAgg1 (P := P) (t := t), hl F w hs]
theorem JQ_field {s f off ft n : Nat} [TF P s f off ft n] {x : Operand} {b o : Nat} (hx : ev E x = some (.pointer (some ⟨b, o, none⟩))) : JQ P N ⟨d, .fieldAddr s x f, ty, pos, after, g⟩ E D L (.pointer (some ⟨b, o + off, none⟩)) := fun F a hr w hs => by
  obtain ⟨fs, fl, h1, h2, rfl, rfl, ⟨i, h3, h4⟩, h5⟩ := TF.h (P := P) (s := s) (f := f) (off := off) (ty := ft) (n := n)
  simp [execOp, Instr.fieldAt, hr.eval hx, run_underlying' h1, h2, Instr.sureAddr, fieldPlace, run_sizeOf' h3, h4, h5, addr_add]
theorem JQ_index {t e : TypeId} [TU P t (.slice e)] {z : Value} {n k : Nat} [TI P e z n k] {x y : Operand} {b o len cap j : Nat} {ik : IntKind} (hx : ev E x = some (.slice (some ⟨b, o, none⟩) len cap)) (hy : ev E y = some (.int ik (j : Int))) (hj : j < len) :
    JQ P N ⟨d, .indexAddr t x y, ty, pos, after, g⟩ E D L (.pointer (some ⟨b, o + j * n, none⟩)) := fun F a hr w hs => by
  obtain ⟨i, h1, h2, h3, h4⟩ := TI.h (P := P) (t := e) (z := z) (n := n) (b := k)
  have h5 : ¬ len ≤ j := by omega
  simp [execOp, Instr.indexAt, hr.eval hx, hr.eval hy, asIntOf, run_underlying' (TU.h (P := P) (t := t)), run_sizeOf' h1, h3, addr_add, h5]
theorem JQ_neI {x y : Operand} {m n : Int} {k : IntKind} {t u : TypeId} (hx : ev E x = some (.int k m)) (hy : ev E y = some (.int k n)) : JQ P N ⟨d, .binOp .neq t x y u, ty, pos, after, g⟩ E D L (.bool (decide (m ≠ n))) := fun F a hr w hs => by
  have : (m != n) = decide (m ≠ n) := by by_cases h : m = n <;> simp [h]
  simp [execOp, hr.eval hx, hr.eval hy, eqGuard, binOp, Op.intCmp, this]
theorem JQ_eqI {x y : Operand} {m n : Int} {k : IntKind} {t u : TypeId} (hx : ev E x = some (.int k m)) (hy : ev E y = some (.int k n)) : JQ P N ⟨d, .binOp .eql t x y u, ty, pos, after, g⟩ E D L (.bool (decide (m = n))) := fun F a hr w hs => by
  have : (m == n) = decide (m = n) := by by_cases h : m = n <;> simp [h]
  simp [execOp, hr.eval hx, hr.eval hy, eqGuard, binOp, Op.intCmp, this]
theorem JQ_len {x : Operand} {t e : TypeId} [TU P t (.slice e)] {p : Option Addr} {n c : Nat} (hx : ev E x = some (.slice p n c)) : JQ P N ⟨d, .call ⟨.builtin .len, #[x], #[t]⟩, ty, pos, after, g⟩ E D L (.int .i64 (n : Int)) := fun F a hr w hs => by
  simp [execOp, resolve, invoke, builtin, Builtin.len_, hr.eval hx, run_underlying' TU.h, goInt]
end
theorem vw_base {sz n cap : Nat} {p : Option Addr} {cs : List Value} (hn : 0 < n) (k : Part) (h : Vw sz (.slice p n cap) n cs k) : ∃ b o, p = some ⟨b, o, none⟩ := by
  obtain ⟨_, _, p', cap', h2, h3⟩ := h
  cases h2
  obtain ⟨b, o, _, _, _, h4, _⟩ := h3.resolve_left (by omega)
  exact ⟨b, o, h4⟩
theorem lds_vw {n cap b o j : Nat} {cs : List Value} {u : Value} [hv : HV L (.slice (some ⟨b, o, none⟩) n cap) 1 n cs] (hj : j < n) (hu : cs[j]? = some u) : Lds L ⟨b, o + j * 1, none⟩ u := fun F' w' hs' => by
  obtain ⟨M', hM'⟩ := hv.h F' w' hs'
  obtain ⟨kk', ⟨_, _, _, hle', _, hV', _⟩, m'⟩ := hM'
  obtain ⟨_, _, p'', cap'', h2', h3'⟩ := hV'
  cases h2'
  obtain ⟨b', o', all', e'', fz', hb', h5', h6'⟩ := h3'.resolve_left (by omega)
  cases hb'
  rw [Nat.mul_one]
  exact cell_of (at_obj (m' _ _ (hle' _ _ h5'))) (h6' _ _ hu)
end
end Go.Sp

/- A slice's front part; the lesser of two. -/
namespace Go.Sp
open Go.RowKit
section
variable {P : Program} {N : Nat} {rd : Option Nat} {E : Env} {D : List Deferred} {L : List HP} {Q : Post} {next : Env → List Deferred → List HP → Prop}
variable {d : Option Nat} {ty : TypeId} {pos : String} {after : Array Edge} {g : Option (Nat × Bool)}
theorem JO_front {t e : TypeId} [TU P t (.slice e)] {z : Value} {n k : Nat} [TI P e z n k] {x hi : Operand} {p : Option Addr} {len cap j : Nat} {ik : IntKind} (hx : ev E x = some (.slice p len cap)) (hh : ev E hi = some (.int ik (j : Int))) (hj : j ≤ cap) (hd : dok N d = true) (h : next (put E d (.slice p j cap)) D L) : JO P N rd ⟨d, .slice t x none (some hi) none, ty, pos, after, g⟩ E D L next Q :=
  JO_pure _ (fun c => by simp) hd (fun a w hr => by
    obtain ⟨i, h1, h2, h3, h4⟩ := TI.h (P := P) (t := e) (z := z) (n := n) (b := k)
    have h5 : (Instr.sliceAt t (.slice p len cap) none (some (.int ik (j : Int))) none).run P w = (Instr.slice t (.slice p len cap) none (some (.int ik (j : Int))) none).run P w := by simp [Instr.sliceAt, run_underlying' (TU.h (P := P) (t := t))]
    have h6 : (if cap = 0 then p else p.map (·.add (0 * i.size))) = p := by
      split
      · rfl
      · cases p with
        | none => rfl
        | some a => simp [Addr.add]
    simp [execOp, hr.eval hx, hr.eval hh, h5, Instr.slice, Instr.sliceBounds, run_underlying' (TU.h (P := P) (t := t)), run_sliceBound _ ik (j : Int) cap _ (by omega) (by omega), run_sizeOf' h1]
    simpa using h6) h
theorem run_eqB {t : TypeId} [TU P t .bool] (m n : Bool) (w : World) : (Op.equal t (.bool m) (.bool n)).run P w = .ok (m == n) w := by
  unfold Op.equal
  rw [show Op.maxDepth = 9999 + 1 from rfl]
  unfold Op.equalIn
  simp [run_underlying' (TU.h (P := P) (t := t))]
theorem JO_neB {x y : Operand} {t u : TypeId} [TU P t .bool] {m n : Bool} (hx : ev E x = some (.bool m)) (hy : ev E y = some (.bool n)) (hd : dok N d = true) (h : next (put E d (.bool (m != n))) D L) : JO P N rd ⟨d, .binOp .neq t x y u, ty, pos, after, g⟩ E D L next Q :=
  JO_pure _ (fun c => by simp) hd (fun a w hr => by simp [execOp, hr.eval hx, hr.eval hy, eqGuard, binOp, run_eqB]; cases m <;> cases n <;> rfl) h
theorem JO_eqB {x y : Operand} {t u : TypeId} [TU P t .bool] {m n : Bool} (hx : ev E x = some (.bool m)) (hy : ev E y = some (.bool n)) (hd : dok N d = true) (h : next (put E d (.bool (m == n))) D L) : JO P N rd ⟨d, .binOp .eql t x y u, ty, pos, after, g⟩ E D L next Q :=
  JO_pure _ (fun c => by simp) hd (fun a w hr => by simp [execOp, hr.eval hx, hr.eval hy, eqGuard, binOp, run_eqB]) h
/-- Two that are the same. -/
theorem JO_neB0 {x y : Operand} {t u : TypeId} [TU P t .bool] {m : Bool} (hx : ev E x = some (.bool m)) (hy : ev E y = some (.bool m)) (hd : dok N d = true) (h : next (put E d (.bool false)) D L) : JO P N rd ⟨d, .binOp .neq t x y u, ty, pos, after, g⟩ E D L next Q :=
  JO_neB hx hy hd (by rw [bne_self_eq_false]; exact h)
end
end Go.Sp

/- Regions that draw their order, read, and call functions that leave what they read: one order of them is as good as all. -/
namespace Go.Sp
open Go.RowKit
section
variable {P : Program} {N : Nat} {E : Env} {D : List Deferred} {L L0 : List HP} {Q : Post}
variable (P N) in
/-- From a world that holds L; what the operations that only read look at is L0, which stays. -/
def JG (ops : Array Oper) (fuel : Nat) (ls : List Bool) (E : Env) (D : List Deferred) (L L0 : List HP) (Q : Post) : Prop :=
  ∀ (F : HP) (a : Act) (w : World), Rep N E D a → Sat w (F :: L) → wpAnyH P .any ops (lift N F Q) (fun w => Sat w (F :: L0)) fuel ls.toArray a w
theorem J_regionG [Mixed P] {id : Nat} {ops : Array Oper} (h : JG P N ops (cnt ops.toList) (flags ops.toList) E D L L Q) : J P N none (.region id ops true) E D L Q := fun F a w hr hs => by
  refine (wpIn_wide (n := 0)).2 (wp_region_held (S := fun w => Sat w (F :: L)) Mixed.h ?_)
  have := h F a { w with drawn := w.drawn + 1 } hr (hs.world rfl)
  rw [flags_eq, cnt_eq, List.toArray_replicate, Array.length_toList] at this
  exact this
theorem JG_take [hc : CalmQ Q] {ops : Array Oper} {fuel : Nat} {ls : List Bool} (i : Nat) {o : Oper} {v : Value} (ho : ops.toList[i]? = some o) (hg : o.guard = none) (hs : Region.noSelect ops = true) (hf : Region.free .any ops ls.toArray i = true)
    (hr : (Region.ready .any ops ls.toArray).contains i = true) (hd : dok N o.dst = true) (hl : Ent L L0) (hq : JQ P N o E D L0 v) (h : JG P N ops fuel (ls.set i true) (put E o.dst v) D L L0 Q) : JG P N ops (fuel + 1) ls E D L L0 Q := by
  intro F a w hrep hsat
  rw [Array.getElem?_toList] at ho
  refine wpAnyH_take (v := v) ho hs hf hr ?_ (.inl ⟨by simp [Region.wanted, hg], fun w hw => hq F a hrep w hw⟩) (hl F w hsat) ?_
  · rintro c a' w' ⟨E', D', L', q, _⟩
    exact absurd q (hc.h c E' D' L')
  · have := h F (a.put o.dst v) w (hrep.put hd v) hsat
    rw [List.setIfInBounds_toArray]
    exact this
/-- Guarded, and wanted. -/
theorem JG_takeW [hc : CalmQ Q] {ops : Array Oper} {fuel : Nat} {ls : List Bool} (i : Nat) {o : Oper} {v : Value} {j : Nat} {want : Bool} (ho : ops.toList[i]? = some o) (hg : o.guard = some (j, want)) (hv : gval ops E j = some want) (hs : Region.noSelect ops = true) (hf : Region.free .any ops ls.toArray i = true)
    (hr : (Region.ready .any ops ls.toArray).contains i = true) (hd : dok N o.dst = true) (hl : Ent L L0) (hq : JQ P N o E D L0 v) (h : JG P N ops fuel (ls.set i true) (put E o.dst v) D L L0 Q) : JG P N ops (fuel + 1) ls E D L L0 Q := by
  intro F a w hrep hsat
  rw [Array.getElem?_toList] at ho
  refine wpAnyH_take (v := v) ho hs hf hr ?_ (.inl ⟨by simp [Region.wanted, hg, yielded_of hrep hv], fun w hw => hq F a hrep w hw⟩) (hl F w hsat) ?_
  · rintro c a' w' ⟨E', D', L', q, _⟩
    exact absurd q (hc.h c E' D' L')
  · have := h F (a.put o.dst v) w (hrep.put hd v) hsat
    rw [List.setIfInBounds_toArray]
    exact this
theorem gnone_of {all : Array Oper} {a : Act} {j : Nat} (hr : Rep N E D a) (hv : gnone all E j = true) : yielded all a.tmps j = none := by
  unfold gnone at hv
  split at hv
  · rename_i o' ho
    split at hv
    · rename_i d' hd'
      split at hv
      · rename_i vs hb
        have := hr.2.2 d' _ hb
        simp [yielded, ho, hd', this]
      · cases hv
    · cases hv
  · cases hv
theorem JG_passA [hc : CalmQ Q] {ops : Array Oper} {fuel : Nat} {ls : List Bool} (i : Nat) {o : Oper} (ho : ops.toList[i]? = some o) (hw : ∀ a, Rep N E D a → Region.wanted o (yielded ops a.tmps) = false) (hs : Region.noSelect ops = true) (hf : Region.free .any ops ls.toArray i = true)
    (hr : (Region.ready .any ops ls.toArray).contains i = true) (hd : dok N o.dst = true) (hl : Ent L L0) (h : JG P N ops fuel (ls.set i true) (put E o.dst undef) D L L0 Q) : JG P N ops (fuel + 1) ls E D L L0 Q := by
  intro F a w hrep hsat
  rw [Array.getElem?_toList] at ho
  refine wpAnyH_take (v := undef) ho hs hf hr ?_ (.inr ⟨hw a hrep, rfl⟩) (hl F w hsat) ?_
  · rintro c a' w' ⟨E', D', L', q, _⟩
    exact absurd q (hc.h c E' D' L')
  · have := h F (a.put o.dst undef) w (hrep.put hd undef) hsat
    rw [List.setIfInBounds_toArray]
    exact this
/-- Guarded, and passed over. -/
theorem JG_pass [hc : CalmQ Q] {ops : Array Oper} {fuel : Nat} {ls : List Bool} (i : Nat) {o : Oper} {j : Nat} {want : Bool} (ho : ops.toList[i]? = some o) (hg : o.guard = some (j, want)) (hv : gval ops E j = some (!want)) (hs : Region.noSelect ops = true) (hf : Region.free .any ops ls.toArray i = true)
    (hr : (Region.ready .any ops ls.toArray).contains i = true) (hd : dok N o.dst = true) (hl : Ent L L0) (h : JG P N ops fuel (ls.set i true) (put E o.dst undef) D L L0 Q) : JG P N ops (fuel + 1) ls E D L L0 Q :=
  JG_passA i ho (fun a hrep => by simp only [Region.wanted, hg, yielded_of hrep hv]; cases want <;> rfl) hs hf hr hd hl h
theorem JG_passN [hc : CalmQ Q] {ops : Array Oper} {fuel : Nat} {ls : List Bool} (i : Nat) {o : Oper} {j : Nat} {want : Bool} (ho : ops.toList[i]? = some o) (hg : o.guard = some (j, want)) (hv : gnone ops E j = true) (hs : Region.noSelect ops = true) (hf : Region.free .any ops ls.toArray i = true)
    (hr : (Region.ready .any ops ls.toArray).contains i = true) (hd : dok N o.dst = true) (hl : Ent L L0) (h : JG P N ops fuel (ls.set i true) (put E o.dst undef) D L L0 Q) : JG P N ops (fuel + 1) ls E D L L0 Q :=
  JG_passA i ho (fun a hrep => by simp only [Region.wanted, hg, gnone_of hrep hv]; cases want <;> rfl) hs hf hr hd hl h
theorem JG_split {ops : Array Oper} {fuel : Nat} {ls : List Bool} {b : Bool} (d : Nat) (hb : Env.get E d = some (.bool b)) (h1 : b = true → JG P N ops fuel ls ((d, .bool true) :: E) D L L0 Q) (h2 : b = false → JG P N ops fuel ls ((d, .bool false) :: E) D L L0 Q) : JG P N ops fuel ls E D L L0 Q := by
  intro F a w hr hs
  cases b with
  | true => exact h1 rfl F a w (hr.sub (sub_cons hb (Sub.refl _))) hs
  | false => exact h2 rfl F a w (hr.sub (sub_cons hb (Sub.refl _))) hs
theorem JG_end {ops : Array Oper} {fuel : Nat} {ls : List Bool} (hr : Region.ready .any ops ls.toArray = []) (h : Q .normal E D L) : JG P N ops fuel ls E D L L0 Q :=
  fun _ _ _ hrep hsat => wpAnyH_done hr ⟨E, D, L, h, hrep, hsat⟩ fuel
theorem JG_heap {ops : Array Oper} {fuel : Nat} {ls : List Bool} {L' : List HP} (hL : Ent L L') (h : JG P N ops fuel ls E D L' L0 Q) : JG P N ops fuel ls E D L L0 Q := fun F a w hr hs => h F a w hr (hL F w hs)
theorem JG_view {ops : Array Oper} {fuel : Nat} {ls : List Bool} {e sz : Nat} {v : Value} {n : Nat} {cs : List Value} (h : ∀ p cap, v = .slice p n cap → JG P N ops fuel ls E D (Vw sz (.slice p n cap) n cs :: L) L0 Q) : JG P N ops fuel ls E D (OwnS e sz v n cs :: L) L0 Q := by
  intro F a w hr hs
  obtain ⟨p, cap, h1, h2⟩ := hs.swap.own_view
  exact h p cap h1 F a w hr h2.swap
/-- The one that may come up now, a call. -/
theorem JG_enter {ops : Array Oper} {fuel : Nat} {ls : List Bool} (i : Nat) {o : Oper} {f : FuncId} {args : Array Value} {R : Ending → List HP → Prop} (ho : ops.toList[i]? = some o) (hw : ∀ a, Rep N E D a → Region.wanted o (yielded ops a.tmps) = true) (hr : Region.ready .any ops ls.toArray = [i])
    (hd : dok N o.dst = true) (he : ∀ (a : Act) (w : World), Rep N E D a → (execOp a.eval o).run P w = .ok (.enter f args) w) (hc : Ct P f args L R)
    (hv : ∀ v L', R (.returned v) L' → Ent L' L0 ∧ JG P N ops fuel (ls.set i true) (put E o.dst v) D L' L0 Q) (hp : ∀ ch L', R (.panicked ch) L' → Q (.panic ch) E D L') : JG P N ops (fuel + 1) ls E D L L0 Q := by
  intro F a w hrep hsat
  rw [Array.getElem?_toList] at ho
  refine wpAnyH_all hr (by simp) fun k hk => ?_
  simp only [List.mem_singleton] at hk
  subst hk
  simp only [wpOp, ho, hw a hrep, if_true]
  refine .inl ?_
  unfold Oper.wp
  rw [he a w hrep]
  refine (hc F w hsat).mono ?_
  rintro e w' ⟨hne, L', hR, hs'⟩
  cases e with
  | returned v =>
    obtain ⟨h1, h2⟩ := hv v L' hR
    refine ⟨h1 F w' hs', ?_⟩
    rw [List.setIfInBounds_toArray]
    exact h2 F _ w' (hrep.put hd v) hs'
  | panicked ch => exact ⟨E, D, L', hp ch L' hR, hrep, hs'⟩
  | outgrown => exact absurd rfl hne
section
variable {d : Option Nat} {ty : TypeId} {pos : String} {after : Array Edge} {g : Option (Nat × Bool)}
theorem JQ_not {x : Operand} {t : TypeId} {b : Bool} (hx : ev E x = some (.bool b)) : JQ P N ⟨d, .unOp .not t x, ty, pos, after, g⟩ E D L (.bool (!b)) := fun F a hr w hs => by simp [execOp, hr.eval hx, Op.unary]
theorem JQ_notP {x : Operand} {t : TypeId} {p : Prop} {_ : Decidable p} (hx : ev E x = some (.bool (decide p))) : JQ P N ⟨d, .unOp .not t x, ty, pos, after, g⟩ E D L (.bool (decide (¬ p))) := fun F a hr w hs => by simp [execOp, hr.eval hx, Op.unary]
theorem JQ_pickT {c x y : Operand} {v : Value} (hc : ev E c = some (.bool true)) (hx : ev E x = some v) : JQ P N ⟨d, .pick c x y, ty, pos, after, g⟩ E D L v := fun F a hr w hs => by simp [execOp, hr.eval hc, hr.eval hx, asBool]
theorem JQ_pickF {c x y : Operand} {v : Value} (hc : ev E c = some (.bool false)) (hx : ev E y = some v) : JQ P N ⟨d, .pick c x y, ty, pos, after, g⟩ E D L v := fun F a hr w hs => by simp [execOp, hr.eval hc, hr.eval hx, asBool]
theorem JQ_loadA {t n : TypeId} [TA P t n] {x : Operand} {b o : Nat} (cs : List Value) (hx : ev E x = some (.pointer (some ⟨b, o, none⟩))) (hl : ∀ i u, cs[i]? = some u → Lds L ⟨b, o + i, none⟩ u) (hn : cs.length = n) : JQ P N ⟨d, .load t x, ty, pos, after, g⟩ E D L (.agg cs.toArray) := fun F a hr w hs => by
  obtain ⟨_, i, hi, hsz⟩ := TA.h (P := P) (t := t) (n := n)
  have := run_loadCells_list (P := P) (w := w) ⟨b, o, none⟩ cs (fun j v hj => by rw [addr_add]; exact hl j v hj F w hs)
  rw [hn] at this
  simp [execOp, Instr.loadAt, Instr.sureAddr, hr.eval hx, loadVar, run_isAggA (P := P) (t := t) (n := n), run_sizeOf' hi, hsz, this]
theorem lds_vwA {n cap b o j sz i : Nat} {cs : List Value} {u : Value} [hv : HV L (.slice (some ⟨b, o, none⟩) n cap) sz n cs] (hj : j < n) (hu : cs[j * sz + i]? = some u) : Lds L ⟨b, o + j * sz + i, none⟩ u := fun F' w' hs' => by
  obtain ⟨M', hM'⟩ := hv.h F' w' hs'
  obtain ⟨kk', ⟨_, _, _, hle', _, hV', _⟩, m'⟩ := hM'
  obtain ⟨_, _, p'', cap'', h2', h3'⟩ := hV'
  cases h2'
  obtain ⟨b', o', all', e'', fz', hb', h5', h6'⟩ := h3'.resolve_left (by omega)
  cases hb'
  have := cell_of (at_obj (m' _ _ (hle' _ _ h5'))) (h6' _ _ hu)
  rw [Nat.add_assoc]
  exact this
theorem vw_place {sz n cap : Nat} {p : Option Addr} {cs : List Value} (hn : 0 < n) (k : Part) (h : Vw sz (.slice p n cap) n cs k) : ∃ b o, p = some ⟨b, o, none⟩ := by
  obtain ⟨_, _, p', cap', h2, h3⟩ := h
  cases h2
  obtain ⟨b, o, _, _, _, h4, _⟩ := h3.resolve_left (by omega)
  exact ⟨b, o, h4⟩
theorem want_none {ops : Array Oper} {o : Oper} (hg : o.guard = none) : ∀ a : Act, Rep N E D a → Region.wanted o (yielded ops a.tmps) = true := fun _ _ => by simp [Region.wanted, hg]
theorem want_some {ops : Array Oper} {o : Oper} {j : Nat} {want : Bool} (hg : o.guard = some (j, want)) (hv : gval ops E j = some want) : ∀ a : Act, Rep N E D a → Region.wanted o (yielded ops a.tmps) = true := fun _ hr => by simp [Region.wanted, hg, yielded_of hr hv]
theorem enter_fn {f : FuncId} [hf : CF P f] {args : Array Operand} {ts : Array TypeId} {vs : List Value} (hx : evs E args.toList = some vs) (a : Act) (w : World) (hr : Rep N E D a) :
    (execOp a.eval ⟨d, .call ⟨.value (.func f), args, ts⟩, ty, pos, after, g⟩).run P w = .ok (.enter f vs.toArray) w := by
  have e : args.map a.eval = vs.toArray := by rw [← hr.evals hx]; apply Array.ext'; simp
  simp [execOp, resolve, e, Act.eval, Deferred.ofValue, invoke, hf.h]
theorem JG_callVP {v : Value} {K M L1 R0 : List HP} {f : FuncId} [hf : CF P f] {args : Array Operand} {ts : Array TypeId} {vs : List Value} {ops : Array Oper} {fuel : Nat} {ls : List Bool} (i : Nat)
    (ho : ops.toList[i]? = some ⟨d, .call ⟨.value (.func f), args, ts⟩, ty, pos, after, g⟩) (hw : ∀ a, Rep N E D a → Region.wanted ⟨d, .call ⟨.value (.func f), args, ts⟩, ty, pos, after, g⟩ (yielded ops a.tmps) = true) (hr : Region.ready .any ops ls.toArray = [i])
    (hx : evs E args.toList = some vs) (hc : Ct P f vs.toArray K (RetV v R0)) [hs : Sel K L M] [hp : PersK K] [ha : AppH R0 L L1] (hd : dok N d = true) (hl : Ent L1 L0) (h : JG P N ops fuel (ls.set i true) (put E d v) D L1 L0 Q) : JG P N ops (fuel + 1) ls E D L L0 Q :=
  JG_enter i ho hw hr hd (fun a w hr => enter_fn hx a w hr) hc.useP (fun _ _ ⟨_, ⟨he, hL⟩, hL'⟩ => by cases he; rw [hL', hL, ha.h]; exact ⟨hl, h⟩) (fun _ _ ⟨_, ⟨he, _⟩, _⟩ => by cases he)
theorem JG_callEP {α : Type} {φ : α → Prop} {v : α → Value} {K M : List HP} {R0 L1 : α → List HP} {f : FuncId} [hf : CF P f] {args : Array Operand} {ts : Array TypeId} {vs : List Value} {ops : Array Oper} {fuel : Nat} {ls : List Bool} (i : Nat)
    (ho : ops.toList[i]? = some ⟨d, .call ⟨.value (.func f), args, ts⟩, ty, pos, after, g⟩) (hw : ∀ a, Rep N E D a → Region.wanted ⟨d, .call ⟨.value (.func f), args, ts⟩, ty, pos, after, g⟩ (yielded ops a.tmps) = true) (hr : Region.ready .any ops ls.toArray = [i])
    (hx : evs E args.toList = some vs) (hc : Ct P f vs.toArray K (RetE φ v R0)) [hs : Sel K L M] [hp : PersK K] [ha : ∀ x, AppH (R0 x) L (L1 x)] (hd : dok N d = true) (h : ∀ x, φ x → Ent (L1 x) L0 ∧ JG P N ops fuel (ls.set i true) (put E d (v x)) D (L1 x) L0 Q) : JG P N ops (fuel + 1) ls E D L L0 Q :=
  JG_enter i ho hw hr hd (fun a w hr => enter_fn hx a w hr) hc.useP (fun _ _ ⟨_, ⟨x, hφ, he, hL⟩, hL'⟩ => by cases he; rw [hL', hL, (ha x).h]; exact h x hφ) (fun _ _ ⟨_, ⟨_, _, he, _⟩, _⟩ => by cases he)
end
end
end Go.Sp

/- Remainders, conversions of Nats, places in arrays; whole values stored into rows; a row's front part. -/
namespace Go.Sp
open Go.RowKit
theorem flat_take {α : Type} {k : Nat} {f : α → List Value} (hf : ∀ x, (f x).length = k) : ∀ (xs : List α) (m : Nat), (xs.flatMap f).take (m * k) = (xs.take m).flatMap f
  | [], m => by simp
  | x :: xs, 0 => by simp
  | x :: xs, m + 1 => by
    rw [List.flatMap_cons, List.take_succ_cons, List.flatMap_cons, show (m + 1) * k = (f x).length + m * k by rw [hf, Nat.add_mul, Nat.one_mul, Nat.add_comm], List.take_length_add_append, flat_take hf xs m]
theorem vw_take {sz n m cap : Nat} {p : Option Addr} {cs : List Value} (hm : m ≤ n) (k : Part) (h : Vw sz (.slice p n cap) n cs k) : Vw sz (.slice p m cap) m (cs.take (m * sz)) k := by
  obtain ⟨h1, h2, p', cap', h3, h4⟩ := h
  cases h3
  have hle : m * sz ≤ n * sz := Nat.mul_le_mul_right _ hm
  refine ⟨by rw [List.length_take]; omega, by omega, p, cap, rfl, ?_⟩
  by_cases h0 : m = 0
  · exact .inl h0
  · right
    obtain ⟨b, o, all, e, fz, h5, h6, h7⟩ := h4.resolve_left (by omega)
    refine ⟨b, o, all, e, fz, h5, h6, fun i u hu => h7 i u ?_⟩
    rw [List.getElem?_take] at hu
    split at hu
    · exact hu
    · cases hu
theorem lds_eq {L : List HP} {b o o' : Nat} {v : Value} (h : Lds L ⟨b, o, none⟩ v) (e : o = o') : Lds L ⟨b, o', none⟩ v := e ▸ h
section
variable {P : Program} {N : Nat} {rd : Option Nat} {E : Env} {D : List Deferred} {L : List HP} {Q : Post} {next : Env → List Deferred → List HP → Prop}
variable {d : Option Nat} {ty : TypeId} {pos : String} {after : Array Edge} {g : Option (Nat × Bool)}
theorem JO_remN {x y : Operand} {t u : TypeId} {k : IntKind} {a b : Nat} (hx : ev E x = some (.int k (a : Int))) (hy : ev E y = some (.int k (b : Int))) (hb : 0 < b) (hd : dok N d = true) (h : next (put E d (.int k ((a % b : Nat) : Int))) D L) :
    JO P N rd ⟨d, .binOp .rem t x y u, ty, pos, after, g⟩ E D L next Q :=
  JO_pure _ (fun c => by simp) hd (fun w' w hr => by
    have h1 : ¬ b = 0 := by omega
    have h2 : ((a : Int).tmod (b : Int)) = ((a % b : Nat) : Int) := by rw [Int.ofNat_tmod]
    simp [execOp, hr.eval hx, hr.eval hy, eqGuard, binOp, Op.intDiv, h1, h2]) h
theorem JO_quoN {x y : Operand} {t u : TypeId} {k : IntKind} {a b : Nat} (hx : ev E x = some (.int k (a : Int))) (hy : ev E y = some (.int k (b : Int))) (hb : 0 < b) (hw : k.wrap ((a / b : Nat) : Int) = ((a / b : Nat) : Int)) (hd : dok N d = true) (h : next (put E d (.int k ((a / b : Nat) : Int))) D L) :
    JO P N rd ⟨d, .binOp .quo t x y u, ty, pos, after, g⟩ E D L next Q :=
  JO_pure _ (fun c => by simp) hd (fun w' w hr => by
    have h1 : ¬ b = 0 := by omega
    have h2 : ((a : Int).tdiv (b : Int)) = ((a / b : Nat) : Int) := by rw [Int.ofNat_tdiv]
    simp [execOp, hr.eval hx, hr.eval hy, eqGuard, binOp, Op.intDiv, h1, h2]; simpa using hw) h
theorem JO_convN {src dst : TypeId} {k : IntKind} {sd : TypeDesc} [TU P src sd] [TU P dst (.int .i64)] {x : Operand} {n : Nat} (hx : ev E x = some (.int k (n : Int))) (hn : n ≤ 9223372036854775807) (hd : dok N d = true) (h : next (put E d (.int .i64 (n : Int))) D L) :
    JO P N rd ⟨d, .convert src dst x, ty, pos, after, g⟩ E D L next Q := JO_conv hx hd (by
  have : IntKind.i64.wrap (n : Int) = (n : Int) := by simp [IntKind.wrap, IntKind.signed, IntKind.bits]; omega
  rw [this]; exact h)
theorem JO_indexPA {t e len : Nat} [TU P t (.array len e)] {z : Value} {n k : Nat} [TI P e z n k] {x y : Operand} {b o j : Nat} {ik : IntKind} (hx : ev E x = some (.pointer (some ⟨b, o, none⟩))) (hy : ev E y = some (.int ik (j : Int))) (hj : j < len) (hd : dok N d = true)
    (h : next (put E d (.pointer (some ⟨b, o + j * n, none⟩))) D L) : JO P N rd ⟨d, .indexAddr t x y, ty, pos, after, g⟩ E D L next Q :=
  JO_pure _ (fun c => by simp) hd (fun a w hr => by
    obtain ⟨i, h1, h2, h3, h4⟩ := TI.h (P := P) (t := e) (z := z) (n := n) (b := k)
    have h5 : ¬ len ≤ j := by omega
    simp [execOp, Instr.indexAt, hr.eval hx, hr.eval hy, asIntOf, run_underlying' (TU.h (P := P) (t := t)), Instr.sureAddr, run_sizeOf' h1, h3, addr_add, h5]) h
theorem storeCells_off {b o : Nat} : ∀ (vs : List Value) (i : Nat), storeCells ⟨b, o, none⟩ vs i = storeCells ⟨b, 0, none⟩ vs (o + i)
  | [], i => rfl
  | v :: vs, i => by simp only [storeCells, addr_add, storeCells_off vs (i + 1), Nat.zero_add, Nat.add_assoc]
/-- A whole value stored into the midst of a block. -/
theorem JO_storeM {t : TypeId} {z : Value} {n k : Nat} [TI P t z n k] {x y : Operand} {b off : Nat} {cs pre old post vs : List Value} {bt : TypeId} {L' : Obj → List HP} (hx : ev E x = some (.pointer (some ⟨b, off, none⟩))) (hy : ev E y = some (.agg vs.toArray))
    [hb : WB L b (.cells cs.toArray bt (0, 0)) L'] (hcs : cs = pre ++ old ++ post) (ho : off = pre.length) (hn : vs.length = n) (hn' : old.length = n) (hv : ∀ v ∈ vs, v.oneCell' = true) (hd : dok N d = true)
    (h : next (put E d undef) D (L' (.cells (pre ++ vs ++ post).toArray bt (0, 0)))) : JO P N rd ⟨d, .store t x y, ty, pos, after, g⟩ E D L next Q :=
  JO_unit (fun c => by simp) hd fun F a w hr hs' => by
    obtain ⟨i, h1, h2, h3, h4⟩ := TI.h (P := P) (t := t) (z := z) (n := n) (b := k)
    obtain ⟨hb1, hb2⟩ := hb.h F w hs'
    subst hcs; subst ho
    have hst := run_storeCells_all (P := P) (b := b) (t := bt) vs pre post w hv old (by omega) hb1
    refine ⟨_, _, ?_, hb2 _, h⟩
    have e := storeCells_off (b := b) (o := pre.length) vs 0
    rw [Nat.add_zero] at e
    simp [execOp, Instr.storeAt, Instr.sureAddr, hr.eval hx, hr.eval hy, storeVar, Value.cells, run_sizeOf' h1, h3, hn, e, hst]
theorem J_own {c : Code} {e sz : Nat} {v : Value} {n : Nat} {cs : List Value} (hn : 0 < n) (h : ∀ b sp cap, v = .slice (some ⟨b, 0, none⟩) n cap → n ≤ cap → cap ≤ maxLen → cs.length + sp.length = cap * sz → cs.length = n * sz → J P N rd c E D (pt b (.cells (cs ++ sp).toArray e (0, 0)) :: L) Q) :
    J P N rd c E D (OwnS e sz v n cs :: L) Q := by
  intro F a w hr hs
  obtain ⟨h0, h1 | ⟨b, sp, cap, h1, h2, h3, h4, h5⟩⟩ := hs.swap.own_cases
  · omega
  · exact h b sp cap h1 h2 h3 h4 h0 F a w hr h5.swap
/-- An owned slice is a slice. -/
theorem J_ownv {c : Code} {e sz : Nat} {v : Value} {n : Nat} {cs : List Value} (h : ∀ p cap, v = .slice p n cap → J P N rd c E D (OwnS e sz v n cs :: L) Q) : J P N rd c E D (OwnS e sz v n cs :: L) Q := by
  intro F a w hr hs
  obtain ⟨_, ⟨h1, h2, _⟩ | ⟨b, sp, cap, h1, _⟩⟩ := hs.swap.own_cases
  · exact h none 0 (by rw [h1, h2]) F a w hr hs
  · exact h _ cap h1 F a w hr hs
end
end Go.Sp

/- Drawn regions: the next one that only reads, found by reckoning; more operations that only read. -/
namespace Go.Sp
open Go.RowKit
def quietO (o : Oper) : Bool := match o.op with | .call ⟨.value _, _, _⟩ => false | .store _ _ _ => false | .mapUpdate _ _ _ _ => false | .insert _ _ _ _ => false | _ => true
def findQ (ops : Array Oper) (ls : List Bool) : List Nat → Option Nat
  | [] => none
  | i :: r => match rdy ops ls i with
    | true => match ops.toList[i]? with
      | some o => match quietO o with | true => some i | false => findQ ops ls r
      | none => findQ ops ls r
    | false => findQ ops ls r
theorem findQ_rdy {ops : Array Oper} {ls : List Bool} {i : Nat} : ∀ {l : List Nat}, findQ ops ls l = some i → i ∈ l ∧ rdy ops ls i = true := by
  intro l
  induction l with
  | nil => intro h; cases h
  | cons j r ih =>
    intro h
    have keep : findQ ops ls r = some i → i ∈ j :: r ∧ rdy ops ls i = true := fun h => ⟨List.mem_cons_of_mem _ (ih h).1, (ih h).2⟩
    simp only [findQ] at h
    split at h
    · rename_i hr
      split at h
      · split at h
        · cases h; exact ⟨by simp, hr⟩
        · exact keep h
      · exact keep h
    · exact keep h
theorem findQ_ready {ops : Array Oper} {ls : List Bool} {i : Nat} (h : findQ ops ls (idxs ops.toList 0) = some i) : (Region.ready .any ops ls.toArray).contains i = true := by
  obtain ⟨h1, h2⟩ := findQ_rdy h
  rw [← idxs_range] at h1
  rw [rdy_eq]
  simpa using ⟨by simpa using h1, h2⟩
instance calm_cutQ (E' : Env) (D' : List Deferred) (L' : List HP) (Q : Post) [h : CalmQ Q] : CalmQ (cutQ E' D' L' Q) := ⟨fun ch E D L q => h.h ch E D L q⟩
instance calm_cutX {α : Sort _} (E' : α → Env) (D' : List Deferred) (L' : α → List HP) (Q : Post) [h : CalmQ Q] : CalmQ (cutX E' D' L' Q) := ⟨fun ch E D L q => h.h ch E D L q⟩
section
variable {P : Program} {N : Nat} {E : Env} {D : List Deferred} {L L0 : List HP} {Q : Post}
theorem JG_n [CalmQ Q] {ops : Array Oper} {fuel : Nat} {ls : List Bool} {i : Nat} {o : Oper} {v : Value} (hn : findQ ops ls (idxs ops.toList 0) = some i) (ho : ops.toList[i]? = some o) (hg : o.guard = none) (hs : Region.noSelect ops = true) (hf : Region.free .any ops ls.toArray i = true)
    (hd : dok N o.dst = true) (hl : Ent L L0) (hq : JQ P N o E D L0 v) (h : JG P N ops fuel (ls.set i true) (put E o.dst v) D L L0 Q) : JG P N ops (fuel + 1) ls E D L L0 Q := JG_take i ho hg hs hf (findQ_ready hn) hd hl hq h
theorem JG_nW [CalmQ Q] {ops : Array Oper} {fuel : Nat} {ls : List Bool} {i : Nat} {o : Oper} {v : Value} {j : Nat} {want : Bool} (hn : findQ ops ls (idxs ops.toList 0) = some i) (ho : ops.toList[i]? = some o) (hg : o.guard = some (j, want)) (hv : gval ops E j = some want) (hs : Region.noSelect ops = true) (hf : Region.free .any ops ls.toArray i = true)
    (hd : dok N o.dst = true) (hl : Ent L L0) (hq : JQ P N o E D L0 v) (h : JG P N ops fuel (ls.set i true) (put E o.dst v) D L L0 Q) : JG P N ops (fuel + 1) ls E D L L0 Q := JG_takeW i ho hg hv hs hf (findQ_ready hn) hd hl hq h
theorem JG_nP [CalmQ Q] {ops : Array Oper} {fuel : Nat} {ls : List Bool} {i : Nat} {o : Oper} {j : Nat} {want : Bool} (hn : findQ ops ls (idxs ops.toList 0) = some i) (ho : ops.toList[i]? = some o) (hg : o.guard = some (j, want)) (hv : gval ops E j = some (!want)) (hs : Region.noSelect ops = true) (hf : Region.free .any ops ls.toArray i = true)
    (hd : dok N o.dst = true) (hl : Ent L L0) (h : JG P N ops fuel (ls.set i true) (put E o.dst undef) D L L0 Q) : JG P N ops (fuel + 1) ls E D L L0 Q := JG_pass i ho hg hv hs hf (findQ_ready hn) hd hl h
theorem JG_nN [CalmQ Q] {ops : Array Oper} {fuel : Nat} {ls : List Bool} {i : Nat} {o : Oper} {j : Nat} {want : Bool} (hn : findQ ops ls (idxs ops.toList 0) = some i) (ho : ops.toList[i]? = some o) (hg : o.guard = some (j, want)) (hv : gnone ops E j = true) (hs : Region.noSelect ops = true) (hf : Region.free .any ops ls.toArray i = true)
    (hd : dok N o.dst = true) (hl : Ent L L0) (h : JG P N ops fuel (ls.set i true) (put E o.dst undef) D L L0 Q) : JG P N ops (fuel + 1) ls E D L L0 Q := JG_passN i ho hg hv hs hf (findQ_ready hn) hd hl h
theorem JG_fin {ops : Array Oper} {fuel : Nat} {ls : List Bool} (hr : orL (rdy ops ls) (idxs ops.toList 0) = false) (h : Q .normal E D L) : JG P N ops fuel ls E D L L0 Q := by
  refine JG_end ?_ h
  rw [orL_eq, ← idxs_range] at hr
  rw [rdy_eq, List.filter_eq_nil_iff]
  intro i hi hr'
  rw [List.any_eq_false] at hr
  exact hr i hi hr'
theorem J_regionGS [Mixed P] (L0 : List HP) {id : Nat} {ops : Array Oper} (h : JG P N ops (cnt ops.toList) (flags ops.toList) E D L L0 Q) : J P N none (.region id ops true) E D L Q := fun F a w hr hs => by
  refine (wpIn_wide (n := 0)).2 (wp_region_held (S := fun w => Sat w (F :: L0)) Mixed.h ?_)
  have := h F a { w with drawn := w.drawn + 1 } hr (hs.world rfl)
  rw [flags_eq, cnt_eq, List.toArray_replicate, Array.length_toList] at this
  exact this
theorem run_then_skip {P : Program} (s : Sem Unit) (w w' : World) (n : Next) (h : (do s; pure Next.skip : Sem Next).run P w = .ok n w') : n = .skip := by
  rw [Sem.run_bind] at h
  cases hr : s.run P w with
  | ok u w1 => rw [hr] at h; simp only [Result.andThen_ok, Sem.run_pure, Result.ok.injEq] at h; exact h.1.symm
  | halt x w1 => rw [hr] at h; cases h
/-- A store, where it is the one that may come up now. -/
theorem JG_store {ops : Array Oper} {fuel : Nat} {ls : List Bool} (i : Nat) {d : Option Nat} {ty : TypeId} {pos : String} {after : Array Edge} {t : TypeId} {x y : Operand} (ho : ops.toList[i]? = some ⟨d, .store t x y, ty, pos, after, none⟩) (hr : Region.ready .any ops ls.toArray = [i])
    (h : JO P N none ⟨d, .store t x y, ty, pos, after, none⟩ E D L (fun E' D' L' => Ent L' L0 ∧ JG P N ops fuel (ls.set i true) E' D' L' L0 Q) Q) : JG P N ops (fuel + 1) ls E D L L0 Q := by
  intro F a w hrep hsat
  rw [Array.getElem?_toList] at ho
  refine wpAnyH_all hr (by simp) fun k hk => ?_
  simp only [List.mem_singleton] at hk
  subst hk
  simp only [wpOp, ho, Region.wanted, if_true]
  refine .inl ?_
  have h1 := (h F a w hrep hsat (fun a' w' => Sat w' (F :: L0) ∧ wpAnyH P .any ops (lift N F Q) (fun w => Sat w (F :: L0)) fuel (ls.toArray.setIfInBounds k true) a' w') (fun E' D' L' a' w' hn hr' hs' => ⟨hn.1 F w' hs', by
    rw [List.setIfInBounds_toArray]
    exact hn.2 F a' w' hr' hs'⟩)).2
  unfold Oper.wp
  change Oper.uponIn (FW none) 0 P _ a _ (lift N F Q) ((execOp a.eval ⟨d, .store t x y, ty, pos, after, none⟩).run P w) at h1
  cases hres : (execOp a.eval ⟨d, .store t x y, ty, pos, after, none⟩).run P w with
  | ok n w' =>
    have hn : n = .skip := run_then_skip _ _ _ _ hres
    subst hn
    rw [hres] at h1
    exact h1
  | halt z w' =>
    rw [hres] at h1
    cases z <;> first | exact h1 | exact h1.elim
theorem JG_splitP {ops : Array Oper} {fuel : Nat} {ls : List Bool} {p : Prop} {_ : Decidable p} (d : Nat) (hb : Env.get E d = some (.bool (decide p))) (h1 : p → JG P N ops fuel ls ((d, .bool true) :: E) D L L0 Q) (h2 : ¬ p → JG P N ops fuel ls ((d, .bool false) :: E) D L L0 Q) : JG P N ops fuel ls E D L L0 Q :=
  JG_split d hb (fun h => h1 (of_decide_eq_true h)) (fun h => h2 (of_decide_eq_false h))
/-- A guard that is neither true nor false yet. -/
theorem JG_askP {ops : Array Oper} {fuel : Nat} {ls : List Bool} {i : Nat} {o : Oper} {j : Nat} {want : Bool} {d : Nat} {p : Prop} {_ : Decidable p} (_ : findQ ops ls (idxs ops.toList 0) = some i) (_ : ops.toList[i]? = some o) (_ : o.guard = some (j, want)) (_ : gslot ops j = some d) (hb : Env.get E d = some (.bool (decide p)))
    (h1 : p → JG P N ops fuel ls ((d, .bool true) :: E) D L L0 Q) (h2 : ¬ p → JG P N ops fuel ls ((d, .bool false) :: E) D L L0 Q) : JG P N ops fuel ls E D L L0 Q := JG_splitP d hb h1 h2
section
variable {d : Option Nat} {ty : TypeId} {pos : String} {after : Array Edge} {g : Option (Nat × Bool)}
section ints
variable {x y : Operand} {m n : Int} {k : IntKind} {t u : TypeId}
theorem JQ_lss (hx : ev E x = some (.int k m)) (hy : ev E y = some (.int k n)) : JQ P N ⟨d, .binOp .lss t x y u, ty, pos, after, g⟩ E D L (.bool (decide (m < n))) := fun F a hr w hs => by simp [execOp, hr.eval hx, hr.eval hy, eqGuard, binOp, Op.intCmp]
theorem JQ_leq (hx : ev E x = some (.int k m)) (hy : ev E y = some (.int k n)) : JQ P N ⟨d, .binOp .leq t x y u, ty, pos, after, g⟩ E D L (.bool (decide (m ≤ n))) := fun F a hr w hs => by simp [execOp, hr.eval hx, hr.eval hy, eqGuard, binOp, Op.intCmp]
theorem JQ_gtr (hx : ev E x = some (.int k m)) (hy : ev E y = some (.int k n)) : JQ P N ⟨d, .binOp .gtr t x y u, ty, pos, after, g⟩ E D L (.bool (decide (n < m))) := fun F a hr w hs => by simp [execOp, hr.eval hx, hr.eval hy, eqGuard, binOp, Op.intCmp]
theorem JQ_geq (hx : ev E x = some (.int k m)) (hy : ev E y = some (.int k n)) : JQ P N ⟨d, .binOp .geq t x y u, ty, pos, after, g⟩ E D L (.bool (decide (n ≤ m))) := fun F a hr w hs => by simp [execOp, hr.eval hx, hr.eval hy, eqGuard, binOp, Op.intCmp]
theorem JQ_sub (hx : ev E x = some (.int .i64 m)) (hy : ev E y = some (.int .i64 n)) (hb : -9223372036854775808 ≤ m - n ∧ m - n ≤ 9223372036854775807) : JQ P N ⟨d, .binOp .sub t x y u, ty, pos, after, g⟩ E D L (.int .i64 (m - n)) := fun F a hr w hs => by
  simp [execOp, hr.eval hx, hr.eval hy, eqGuard, binOp, Op.intArith, wrap_in hb]
theorem JQ_add (hx : ev E x = some (.int .i64 m)) (hy : ev E y = some (.int .i64 n)) (hb : -9223372036854775808 ≤ m + n ∧ m + n ≤ 9223372036854775807) : JQ P N ⟨d, .binOp .add t x y u, ty, pos, after, g⟩ E D L (.int .i64 (m + n)) := fun F a hr w hs => by
  simp [execOp, hr.eval hx, hr.eval hy, eqGuard, binOp, Op.intArith, wrap_in hb]
end ints
theorem JQ_assign {x : Operand} {v : Value} (hx : ev E x = some v) : JQ P N ⟨d, .assign x, ty, pos, after, g⟩ E D L v := fun F a hr w hs => by simp [execOp, hr.eval hx]
theorem JQ_build {t : TypeId} {zc : List Value} {n k : Nat} [TI P t (.agg zc.toArray) n k] {pl : List (Nat × Nat)} [TB P t pl] {parts : Array (Nat × Operand)} {vs : List (Nat × Value)} {cs : List Value} (hp : pevs E parts.toList = some vs) (hf : fillL pl zc vs = some cs) :
    JQ P N ⟨d, .build t parts, ty, pos, after, g⟩ E D L (.agg cs.toArray) := fun F a hr w hs => by
  obtain ⟨i, h1, h2, h3, h4⟩ := TI.h (P := P) (t := t) (z := .agg zc.toArray) (n := n) (b := k)
  have hpl := TB.h (P := P) (t := t) (pl := pl)
  unfold placesOf at hpl
  cases hu : P.underlying t with
  | none => simp [hu] at hpl
  | some td =>
    cases td with
    | struct fs =>
      simp only [hu] at hpl
      have h5 := run_places _ _ hpl w
      have h6 := fill_eq pl vs zc cs hf
      have h7 := hr.pevs hp
      have h8 : (fs.mapM fun f => Prod.mk f.offset <$> sizeOf f.type : Sem (Array (Nat × Nat))).run P w = .ok pl.toArray w := by
        rw [Array.mapM_eq_mapM_toList]
        simp only [Sem.run_map, h5]
        rfl
      simp [execOp, Instr.build, run_zeroValue' h1 h2, run_underlying' hu, h8, Value.cells, Array.toList_map, h7, h6]
    | _ => simp [hu] at hpl
theorem JQ_loadB {t : TypeId} [T1 P t] {x : Operand} {b off : Nat} {cs : List Value} {bt : TypeId} {fz : Nat × Nat} {v : Value} (hx : ev E x = some (.pointer (some ⟨b, off, none⟩))) [HB L b (.cells cs.toArray bt fz)] [hg : GetAt cs off v] : JQ P N ⟨d, .load t x, ty, pos, after, g⟩ E D L v := JQ_load hx (lds_block hg.h)
theorem JQ_field0 {s f off ft n : Nat} [TF P s f off ft n] {x : Operand} {b : Nat} (hx : ev E x = some (.pointer (some ⟨b, 0, none⟩))) : JQ P N ⟨d, .fieldAddr s x f, ty, pos, after, g⟩ E D L (.pointer (some ⟨b, off, none⟩)) := by
  have := JQ_field (P := P) (N := N) (E := E) (D := D) (L := L) (d := d) (ty := ty) (pos := pos) (after := after) (g := g) (s := s) (f := f) hx
  rw [Nat.zero_add] at this
  exact this
theorem JQ_index1 {t e : TypeId} [TU P t (.slice e)] {z : Value} {k : Nat} [TI P e z 1 k] {x y : Operand} {b o len cap j : Nat} {ik : IntKind} (hx : ev E x = some (.slice (some ⟨b, o, none⟩) len cap)) (hy : ev E y = some (.int ik (j : Int))) (hj : j < len) :
    JQ P N ⟨d, .indexAddr t x y, ty, pos, after, g⟩ E D L (.pointer (some ⟨b, o + j, none⟩)) := by
  have := JQ_index (P := P) (N := N) (E := E) (D := D) (L := L) (d := d) (ty := ty) (pos := pos) (after := after) (g := g) (t := t) (n := 1) hx hy hj
  rw [Nat.mul_one] at this
  exact this
theorem lds_vw1 {n cap b o j : Nat} {cs : List Value} {u : Value} [hv : HV L (.slice (some ⟨b, o, none⟩) n cap) 1 n cs] (hj : j < n) (hu : cs[j]? = some u) : Lds L ⟨b, o + j, none⟩ u := by
  have := lds_vw (L := L) (n := n) (cap := cap) (b := b) (o := o) hj hu
  rw [Nat.mul_one] at this
  exact this
end
end
end Go.Sp

/- Made rows of structs; a slice's rear part; lists of rows, put together. -/
namespace Go.Sp
open Go.RowKit
section
variable {P : Program} {N : Nat} {rd : Option Nat} {E : Env} {D : List Deferred} {L : List HP} {Q : Post} {next : Env → List Deferred → List HP → Prop}
variable {d : Option Nat} {ty : TypeId} {pos : String} {after : Array Edge} {g : Option (Nat × Bool)}
theorem JO_makeM {x y : Operand} {t e sz k : Nat} [TU P t (.slice e)] {z : Value} [TI P e z sz k] {n : Nat} {ik jk : IntKind} (cs : List Value) (hx : ev E x = some (.int ik (n : Int))) (hy : ev E y = some (.int jk (n : Int))) (hcs : madeCells z.cells (n * sz) = cs.toArray) (hb : k * n ≤ 281474976710656) (hn : n ≤ maxLen)
    (hd : dok N d = true) (h : ∀ b, next (put E d (.slice (some ⟨b, 0, none⟩) n n)) D (pt b (.cells cs.toArray e (0, 0)) :: L)) : JO P N rd ⟨d, .makeSlice t x y, ty, pos, after, g⟩ E D L next Q :=
  JO_value (fun c => by simp) hd fun F a w hr hs => by
    obtain ⟨i, h1, h2, h3, h4⟩ := TI.h (P := P) (t := e) (z := z) (n := sz) (b := k)
    have hb' : (i.bytes : Int) * (n : Int) ≤ 281474976710656 := by rw [h4, ← Int.natCast_mul]; omega
    have hr2 := run_make (P := P) w t e i z TU.h h1 h2 ik jk n n (by omega) (Int.le_refl _) hb' (by simp [maxLen] at hn; omega)
    have e1 : madeCells z.cells ((n : Int).toNat * i.size) = cs.toArray := by rw [h3, Int.toNat_natCast]; exact hcs
    rw [e1] at hr2
    simp only [Int.toNat_natCast] at hr2
    exact ⟨_, _, _, by simp [execOp, hr.eval hx, hr.eval hy, hr2], (hs.new _).swap, h _⟩
theorem JO_from {t e : TypeId} [TU P t (.slice e)] {z : Value} {n k : Nat} [TI P e z n k] {x lo : Operand} {b o len cap j : Nat} {ik : IntKind} (hx : ev E x = some (.slice (some ⟨b, o, none⟩) len cap)) (hh : ev E lo = some (.int ik (j : Int))) (hj : j ≤ len) (_ : len ≤ cap) (hjc : j < cap)
    (hd : dok N d = true) (h : next (put E d (.slice (some ⟨b, o + j * n, none⟩) (len - j) (cap - j))) D L) : JO P N rd ⟨d, .slice t x (some lo) none none, ty, pos, after, g⟩ E D L next Q :=
  JO_pure _ (fun c => by simp) hd (fun a w hr => by
    obtain ⟨i, h1, h2, h3, h4⟩ := TI.h (P := P) (t := e) (z := z) (n := n) (b := k)
    have h5 : (Instr.sliceAt t (.slice (some ⟨b, o, none⟩) len cap) (some (.int ik (j : Int))) none none).run P w = (Instr.slice t (.slice (some ⟨b, o, none⟩) len cap) (some (.int ik (j : Int))) none none).run P w := by simp [Instr.sliceAt, run_underlying' (TU.h (P := P) (t := t))]
    have h6 : ¬ cap = j := by omega
    simp [execOp, hr.eval hx, hr.eval hh, h5, Instr.slice, Instr.sliceBounds, run_underlying' (TU.h (P := P) (t := t)), run_sliceBound _ ik (j : Int) len _ (by omega) (by omega), run_sizeOf' h1, addr_add, h3, h6]) h
end
theorem rows_nil {L : List HP} : Ent L (Lists [] [] :: L) := Ent.cons fun _ _ h => h.add (lists_nil _)
theorem Ent.lists_cons {A : HP} {lv : Value} {l : List Int} {lvs : List Value} {ls : List (List Int)} {L : List HP} (hA : ∀ k, A k → (∃ p cap, lv = .slice p l.length cap) ∧ Vw 1 lv l.length (ints l) k) (hup : Up A) : Ent (A :: Lists lvs ls :: L) (Lists (lv :: lvs) (l :: ls) :: L) := fun F w hs => by
  refine (Sat.join (M := [A, Lists lvs ls]) (L := F :: L) (hs.perm ((List.Perm.swap _ _ _).trans (List.Perm.cons _ (List.Perm.swap _ _ _)))) fun k hk => ?_).swap
  obtain ⟨h1, h2⟩ := star_two hup (up_lists _ _) hk
  obtain ⟨h3, h4⟩ := hA k h1
  refine ⟨by simp [h2.1], fun i lv' l' ha hb => ?_⟩
  cases i with
  | zero => simp at ha hb; subst ha; subst hb; exact ⟨h3, h4⟩
  | succ i => exact h2.2 i lv' l' (by simpa using ha) (by simpa using hb)
theorem rows_none {L : List HP} {lvs : List Value} {ls : List (List Int)} (h : Ent L (Lists lvs ls :: L)) : Ent L (Lists (.slice none 0 0 :: lvs) ([] :: ls) :: L) :=
  h.trans ((Ent.cons (A := Vw 1 (.slice none 0 0) 0 []) fun _ _ hs => hs.add ⟨rfl, Nat.zero_le _, none, 0, rfl, .inl rfl⟩).trans (Ent.lists_cons (l := []) (fun _ hk => ⟨⟨none, 0, rfl⟩, hk⟩) (up_vw _ _ _ _)))
theorem rows_some {L M : List HP} {lvs : List Value} {ls : List (List Int)} {p : Option Addr} {n c : Nat} {l : List Int} (hn : n = l.length) [t : Tk (Vw 1 (.slice p n c) n (ints l)) L M] (h : Ent L (Lists lvs ls :: L)) : Ent L (Lists (.slice p n c :: lvs) (l :: ls) :: L) := by
  subst hn
  exact (Ent.dup (Vw 1 (.slice p l.length c) l.length (ints l))).trans ((Ent.keep h).trans (Ent.lists_cons (fun k hk => ⟨⟨p, c, rfl⟩, hk⟩) (up_vw _ _ _ _)))
end Go.Sp

/- Drawn regions that make memory: whichever order; of each operation is said what its value is like, once it is there. -/
namespace Go.Sp
open Go.RowKit
/-- What L says, as often as one likes. -/
def HasP (L : List HP) (A : HP) : Prop := Ent L (A :: L)
theorem Ent.under {L M : List HP} (h : Ent L M) : ∀ K : List HP, Ent (K ++ L) (K ++ M)
  | [] => h
  | _ :: K => Ent.keep (Ent.under h K)
theorem Ent.perm {L M : List HP} (p : L.Perm M) : Ent L M := fun F _ hs => hs.perm (p.cons F)
theorem HasP.ext {L : List HP} {A : HP} (h : HasP L A) (K : List HP) : HasP (K ++ L) A := (Ent.under h K).trans (Ent.perm List.perm_middle)
theorem HasP.head {L : List HP} {A : HP} (hp : Pers A) : HasP (A :: L) A := fun _ _ hs => ((hs.swap).dup hp).perm (((List.Perm.swap _ _ _).cons _).trans (List.Perm.swap _ _ _))
theorem Ent.rest : ∀ (K L : List HP), Ent (K ++ L) L
  | [], _ => Ent.refl _
  | _ :: K, L => fun F w hs => Ent.rest K L F w (hs.swap.tail)
theorem lds_ext {L : List HP} {a : Addr} {v : Value} (h : Lds L a v) (K : List HP) : Lds (K ++ L) a v := fun F w hs => h F w (Ent.rest K L F w hs)
def dagOk (base : List Nat) : List Oper → Nat → List Nat → Bool
  | [], _, _ => true
  | o :: r, i, seen => match o.guard, o.dst with
    | none, some d => !(base.contains d) && (!(seen.contains d) && (o.after.toList.all (fun e => !Region.binds .any e || Nat.blt e.on i) && dagOk base r (i + 1) (d :: seen)))
    | _, _ => false
theorem dag_at {base : List Nat} : ∀ {l : List Oper} {k : Nat} {seen : List Nat}, dagOk base l k seen = true → ∀ (i : Nat) (o : Oper), l[i]? = some o → o.guard = none ∧ ∃ d, o.dst = some d ∧ d ∉ base ∧ d ∉ seen ∧ (∀ e ∈ o.after.toList, Region.binds .any e = true → e.on < k + i) ∧
    ∀ (j : Nat) (o' : Oper), i < j → l[j]? = some o' → o'.dst ≠ some d := by
  intro l
  induction l with
  | nil => intro k seen _ i o h; simp at h
  | cons o0 r ih =>
    intro k seen h i o hi
    simp only [dagOk] at h
    split at h
    · rename_i d hg hd
      simp only [Bool.and_eq_true, Bool.not_eq_true', List.contains_eq_mem, decide_eq_false_iff_not, List.all_eq_true, Bool.or_eq_true] at h
      obtain ⟨h1, h2, h3, h4⟩ := h
      cases i with
      | zero =>
        simp at hi
        subst hi
        refine ⟨hg, d, hd, h1, h2, fun e he hb => ?_, fun j o' hj ho' hd' => ?_⟩
        · have h5 := (h3 e he).resolve_left (by rw [hb]; decide)
          have : e.on < k := by simpa [Nat.blt_eq] using h5
          omega
        · obtain ⟨j, rfl⟩ : ∃ m, j = m + 1 := ⟨j - 1, by omega⟩
          obtain ⟨_, d2, h6, _, h7, _⟩ := ih h4 j o' (by simpa using ho')
          rw [h6] at hd'; cases hd'
          exact h7 (by simp)
      | succ i =>
        obtain ⟨h5, d2, h6, h7, h8, h9, h10⟩ := ih h4 i o (by simpa using hi)
        refine ⟨h5, d2, h6, h7, fun hm => h8 (by simp [hm]), fun e he hb => by have := h9 e he hb; omega, fun j o' hj ho' => ?_⟩
        obtain ⟨j, rfl⟩ : ∃ m, j = m + 1 := ⟨j - 1, by omega⟩
        exact h10 j o' (by omega) (by simpa using ho')
    · cases h
def depB (o : Oper) (j : Nat) : Bool := o.after.toList.any fun e => Region.binds .any e && Nat.beq e.on j
section
variable {P : Program} {N : Nat} {D : List Deferred} {Q : Post}
variable (P N) in
/-- What is to be shown of each operation. -/
def StepsOk (ops : Array Oper) (base : List Nat) (E0 : Env) (D : List Deferred) (L0 : List HP) (Spec : Nat → List HP → Value → Prop) (Q : Post) : List Oper → Nat → Prop
  | [], _ => True
  | o :: r, i => (∀ (E : Env) (K0 : List HP) (d : Nat), o.dst = some d → (∀ s ∈ base, Env.get E s = Env.get E0 s) → (∀ (j dj : Nat), depB o j = true → gslot ops j = some dj → ∃ v, Env.get E dj = some v ∧ Spec j (K0 ++ L0) v) →
      JO P N none o E D (K0 ++ L0) (fun E' D' L' => D' = D ∧ ∃ K v, Ent L' (K ++ (K0 ++ L0)) ∧ E' = put E (some d) v ∧ Spec i (K ++ (K0 ++ L0)) v) Q) ∧ StepsOk ops base E0 D L0 Spec Q r (i + 1)
theorem steps_at {ops : Array Oper} {base : List Nat} {E0 : Env} {L0 : List HP} {Spec : Nat → List HP → Value → Prop} : ∀ {l : List Oper} {k : Nat}, StepsOk P N ops base E0 D L0 Spec Q l k → ∀ (i : Nat) (o : Oper), l[i]? = some o →
    ∀ (E : Env) (K0 : List HP) (d : Nat), o.dst = some d → (∀ s ∈ base, Env.get E s = Env.get E0 s) → (∀ (j dj : Nat), depB o j = true → gslot ops j = some dj → ∃ v, Env.get E dj = some v ∧ Spec j (K0 ++ L0) v) →
      JO P N none o E D (K0 ++ L0) (fun E' D' L' => D' = D ∧ ∃ K v, Ent L' (K ++ (K0 ++ L0)) ∧ E' = put E (some d) v ∧ Spec (k + i) (K ++ (K0 ++ L0)) v) Q := by
  intro l
  induction l with
  | nil => intro k _ i o h; simp at h
  | cons o0 r ih =>
    intro k h i o hi
    cases i with
    | zero => simp at hi; subst hi; exact h.1
    | succ i =>
      have := ih h.2 i o (by simpa using hi)
      rw [show k + (i + 1) = k + 1 + i by omega]
      exact this
def undone : List Bool → Nat
  | [] => 0
  | true :: r => undone r
  | false :: r => undone r + 1
theorem undone_set : ∀ {ls : List Bool} {i : Nat}, ls[i]? = some false → undone (ls.set i true) + 1 = undone ls
  | [], i, h => by simp at h
  | b :: r, 0, h => by simp at h; subst h; rfl
  | b :: r, i + 1, h => by
    have := undone_set (ls := r) (i := i) (by simpa using h)
    cases b <;> simp only [List.set_cons_succ, undone] <;> omega
theorem undone_zero : ∀ {ls : List Bool}, undone ls = 0 → ∀ i, ls.getD i true = true
  | [], _, i => by simp
  | true :: r, h, 0 => rfl
  | true :: r, h, i + 1 => by simpa using undone_zero (ls := r) h i
  | false :: r, h, _ => by simp [undone] at h
theorem undone_flags : ∀ l : List Oper, undone (flags l) = cnt l
  | [] => rfl
  | _ :: r => by simp [flags, undone, cnt, undone_flags r]
theorem jal_all {ops : Array Oper} {fuel : Nat} {ls : List Bool} {E : Env} {L : List HP} (h : ∀ i, rdy ops ls i = true → JA1 P N ops fuel ls i E D L Q) : ∀ l, JAl P N ops fuel ls E D L Q l
  | [] => trivial
  | i :: r => by
    refine ⟨?_, jal_all h r⟩
    cases hr : rdy ops ls i with
    | true => exact h i hr
    | false => trivial
/-- Of each operation that is done: what its value is like. -/
def DagInv (ops : Array Oper) (base : List Nat) (E0 : Env) (Spec : Nat → List HP → Value → Prop) (ls : List Bool) (E : Env) (L : List HP) : Prop :=
  ls.length = ops.toList.length ∧ (∀ s ∈ base, Env.get E s = Env.get E0 s) ∧ ∀ (i d : Nat), gslot ops i = some d → ls.getD i false = true → ∃ v, Env.get E d = some v ∧ Spec i L v
theorem gslot_of {ops : Array Oper} {i d : Nat} (h : gslot ops i = some d) : ∃ o, ops.toList[i]? = some o ∧ o.dst = some d := by
  unfold gslot at h
  split at h
  · rename_i o ho
    exact ⟨o, by simpa using ho, h⟩
  · cases h
theorem dag_go {ops : Array Oper} {base : List Nat} {E0 : Env} {L0 : List HP} {Spec : Nat → List HP → Value → Prop} (hok : dagOk base ops.toList 0 [] = true) (hmono : ∀ i L v, Spec i L v → ∀ K, Spec i (K ++ L) v)
    (hst : StepsOk P N ops base E0 D L0 Spec Q ops.toList 0)
    (hfin : ∀ E K, (∀ s ∈ base, Env.get E s = Env.get E0 s) → (∀ (i d : Nat), gslot ops i = some d → ∃ v, Env.get E d = some v ∧ Spec i (K ++ L0) v) → Q .normal E D (K ++ L0)) :
    ∀ (fuel : Nat) (ls : List Bool) (E : Env) (K : List HP), undone ls ≤ fuel → DagInv ops base E0 Spec ls E (K ++ L0) → JA P N ops fuel ls E D (K ++ L0) Q := by
  intro fuel
  induction fuel with
  | zero =>
    intro ls E K hu hI
    have hall := undone_zero (ls := ls) (by omega)
    refine JA_end ?_ (hfin E K hI.2.1 fun i d hg => hI.2.2 i d hg ?_)
    · rw [orL_eq, List.any_eq_false]
      intro i _
      unfold rdy
      rw [hall i]
      simp
    · obtain ⟨o, ho, _⟩ := gslot_of hg
      have hi : i < ls.length := by rw [hI.1]; exact (List.getElem?_eq_some_iff.1 ho).1
      have := hall i
      simp only [List.getD_eq_getElem?_getD, List.getElem?_eq_getElem hi, Option.getD_some] at this ⊢
      exact this
  | succ fuel ih =>
    intro ls E K hu hI
    cases hor : orL (rdy ops ls) (idxs ops.toList 0) with
    | false =>
      refine JA_end hor (hfin E K hI.2.1 fun i d hg => hI.2.2 i d hg ?_)
      rw [orL_eq, ← idxs_range, List.any_eq_false] at hor
      have key : ∀ i, i < ops.toList.length → ls.getD i false = true := by
        intro i
        induction i using Nat.strongRecOn with
        | _ i ih2 =>
          intro hi
          obtain ⟨o, ho⟩ : ∃ o, ops.toList[i]? = some o := ⟨_, List.getElem?_eq_getElem hi⟩
          obtain ⟨_, _, _, _, _, h5, _⟩ := dag_at hok i o ho
          have h6 := hor i (by simpa using hi)
          cases hd : ls.getD i false with
          | true => rfl
          | false =>
            exfalso
            apply h6
            have hil : i < ls.length := by rw [hI.1]; exact hi
            have hd2 : ls.getD i true = false := by
              simp only [List.getD_eq_getElem?_getD, List.getElem?_eq_getElem hil, Option.getD_some] at hd ⊢
              exact hd
            unfold rdy
            rw [hd2, ho]
            simp only [Bool.not_false, Option.map_some, Option.getD_some, Bool.true_and, List.all_eq_true]
            intro e he
            cases hb : Region.binds .any e with
            | false => rfl
            | true =>
              have h7 := h5 e he hb
              have h8 := ih2 e.on (by omega) (by omega)
              rw [h8]; rfl
      obtain ⟨o, ho, _⟩ := gslot_of hg
      exact key i (List.getElem?_eq_some_iff.1 ho).1
    | true =>
      refine JA_step hor (jal_all (fun i hr => ?_) _)
      unfold rdy at hr
      simp only [Bool.and_eq_true, Bool.not_eq_true'] at hr
      obtain ⟨hr1, hr2⟩ := hr
      cases ho : ops.toList[i]? with
      | none => rw [ho] at hr2; simp at hr2
      | some o =>
        rw [ho] at hr2
        simp only [Option.map_some, Option.getD_some, List.all_eq_true, Bool.or_eq_true, Bool.not_eq_true'] at hr2
        obtain ⟨hg, d, hd, hnb, _, _, hdis⟩ := dag_at hok i o ho
        have hil : i < ls.length := by rw [hI.1]; exact (List.getElem?_eq_some_iff.1 ho).1
        have hf : ls[i]? = some false := by
          simp only [List.getD_eq_getElem?_getD, List.getElem?_eq_getElem hil, Option.getD_some] at hr1
          rw [List.getElem?_eq_getElem hil, hr1]
        have hus := undone_set hf
        have hstep := steps_at hst i o ho E K d hd hI.2.1 (fun j dj hdep hgj => by
          unfold depB at hdep
          rw [List.any_eq_true] at hdep
          obtain ⟨e, he, hb⟩ := hdep
          simp only [Bool.and_eq_true] at hb
          have hej : e.on = j := Nat.eq_of_beq_eq_true hb.2
          have h9 := (hr2 e he).resolve_left (by rw [hb.1]; decide)
          rw [hej] at h9
          exact hI.2.2 j dj hgj h9)
        refine JA_op ho hg (JO_mono hstep ?_)
        rintro E' D' L' ⟨rfl, K', v, hent, rfl, hsp⟩
        have hnext : JA P N ops fuel (ls.set i true) (put E (some d) v) D' ((K' ++ K) ++ L0) Q := by
          refine ih (ls.set i true) _ (K' ++ K) (by omega) ⟨by rw [List.length_set]; exact hI.1, fun s hs => ?_, fun j dj hgj hj => ?_⟩
          · simp only [put, get_cons]
            have : ¬ d = s := fun e => hnb (e ▸ hs)
            rw [if_neg this]
            exact hI.2.1 s hs
          · simp only [put, get_cons]
            by_cases hji : j = i
            · subst hji
              obtain ⟨o2, ho2, hd2⟩ := gslot_of hgj
              rw [ho] at ho2; cases ho2
              rw [hd] at hd2; cases hd2
              refine ⟨v, by simp, ?_⟩
              rw [List.append_assoc]
              rw [Nat.zero_add] at hsp
              exact hsp
            · have hj2 : ls.getD j false = true := by
                simp only [List.getD_eq_getElem?_getD, List.getElem?_set_ne (Ne.symm hji)] at hj ⊢
                exact hj
              obtain ⟨u, h10, h11⟩ := hI.2.2 j dj hgj hj2
              obtain ⟨o2, ho2, hd2⟩ := gslot_of hgj
              have hne : ¬ d = dj := by
                intro e
                subst e
                rcases Nat.lt_or_ge i j with hij | hij
                · exact hdis j o2 hij ho2 hd2
                · obtain ⟨_, d3, hd3, _, _, _, hdis3⟩ := dag_at hok j o2 ho2
                  rw [hd2] at hd3; cases hd3
                  exact hdis3 i o (by omega) ho hd
              refine ⟨u, by rw [if_neg hne]; exact h10, ?_⟩
              rw [List.append_assoc]
              exact hmono j _ u h11 K'
        rw [List.append_assoc] at hnext
        exact fun F a w hr hs => hnext F a w hr (hent F w hs)
/-- A drawn region without guards, each operation of which leaves a value that is like so. -/
theorem J_regionDag [Mixed P] {id : Nat} {ops : Array Oper} {E0 : Env} {L0 : List HP} (base : List Nat) (Spec : Nat → List HP → Value → Prop) (hok : dagOk base ops.toList 0 [] = true) (hmono : ∀ i L v, Spec i L v → ∀ K, Spec i (K ++ L) v)
    (hst : StepsOk P N ops base E0 D L0 Spec Q ops.toList 0)
    (hfin : ∀ E K, (∀ s ∈ base, Env.get E s = Env.get E0 s) → (∀ (i d : Nat), gslot ops i = some d → ∃ v, Env.get E d = some v ∧ Spec i (K ++ L0) v) → Q .normal E D (K ++ L0)) : J P N none (.region id ops true) E0 D L0 Q := by
  refine J_regionD ?_
  refine dag_go hok hmono hst hfin (cnt ops.toList) (flags ops.toList) E0 [] (by rw [undone_flags]; exact Nat.le_refl _) ⟨by rw [flags_eq]; simp, fun _ _ => rfl, fun i d _ h => ?_⟩
  rw [flags_eq] at h
  simp only [List.getD_eq_getElem?_getD, List.getElem?_replicate] at h
  split at h <;> cases h
end
end Go.Sp

/- Panics; deferred calls; functions that recover. -/
namespace Go.Sp
open Go.RowKit
section
variable {P : Program} {N : Nat} {rd : Option Nat} {E : Env} {D : List Deferred} {L : List HP} {Q : Post} {next : Env → List Deferred → List HP → Prop}
variable {d : Option Nat} {ty : TypeId} {pos : String} {after : Array Edge} {g : Option (Nat × Bool)}
theorem JO_panic {x : Operand} {t : TypeId} {v : Value} (hx : ev E x = some (.iface t v)) (h : Q (.panic [{ v := .iface t v, recovered := false }]) E D L) : JO P N rd ⟨d, .panic x, ty, pos, after, g⟩ E D L next Q := by
  intro F a w hr hs nx hnx
  refine ⟨fun _ _ => trivial, ?_⟩
  rw [Oper.semAt_eq _ _ _ (fun c => by simp)]
  have e : (execOp a.eval ⟨d, .panic x, ty, pos, after, g⟩).run P w = .halt (.panic (.iface t v)) w := by
    have e0 : (Instr.panic (.iface t v)).run P w = .halt (.panic (.iface t v)) w := rfl
    simp [execOp, hr.eval hx, e0, Result.andThen]
  rw [e, Oper.uponIn_panic]
  exact ⟨E, D, L, h, hr, hs⟩
theorem JO_defer {f : FuncId} {args : Array Operand} {ts : Array TypeId} {vs : List Value} (hx : evs E args.toList = some vs) (h : next E (⟨.fn (.func f) #[], vs.toArray⟩ :: D) L) :
    JO P N none ⟨none, .defer ⟨.value (.func f), args, ts⟩, ty, pos, after, g⟩ E D L next Q := by
  intro F a w hr hs nx hnx
  refine ⟨fun _ _ => trivial, ?_⟩
  have e1 : args.map a.eval = vs.toArray := by rw [← hr.evals hx]; apply Array.ext'; simp
  have e : (Oper.semAt (FW none).round a.eval ⟨none, .defer ⟨.value (.func f), args, ts⟩, ty, pos, after, g⟩).run P w = .ok (.defer ⟨.fn (.func f) #[], vs.toArray⟩) w := by
    rw [show (FW none).round = none from rfl, Oper.semAt_none]
    simp [execOp, resolve, e1, Act.eval, Deferred.ofValue]
  rw [e, Oper.uponIn_defer]
  refine hnx _ _ _ _ _ h ⟨hr.1, ?_, hr.2.2⟩ hs
  simp [Act.put, hr.2.1]
end
/-- The contract of a deferred call, in a frame that leaves so. -/
def CtD (P : Program) (f : FuncId) (args : Array Value) (u : FrameMode) (L : List HP) (R : Ending → FrameMode → List HP → Prop) : Prop :=
  ∀ (F : HP) (w : World), Sat w (F :: L) → CallsDIn (FW none) 0 P f args u w fun e u' w' => e ≠ .outgrown ∧ ∃ L', R e u' L' ∧ Sat w' (F :: L')
theorem callsD_mono {F : Fence} {n : Nat} {P : Program} {f : FuncId} {args : Array Value} {u : FrameMode} {w : World} {R R' : Ending → FrameMode → World → Prop} (h : CallsDIn F n P f args u w R) (hr : ∀ e u' w', R e u' w' → R' e u' w') : CallsDIn F n P f args u w R' :=
  ⟨h.1, fun c cs hu hroom => let ⟨e, u', w', fr, r, rest⟩ := h.2 c cs hu hroom; ⟨e, u', w', fr, hr _ _ _ r, rest⟩⟩
theorem CtD.mono {P : Program} {f : FuncId} {args : Array Value} {u : FrameMode} {L : List HP} {R R' : Ending → FrameMode → List HP → Prop} (h : CtD P f args u L R) (hr : ∀ e u' L', R e u' L' → R' e u' L') : CtD P f args u L R' :=
  fun F w hs => callsD_mono (h F w hs) fun _ _ _ ⟨hne, L', r, s⟩ => ⟨hne, L', hr _ _ _ r, s⟩
theorem CtD.frame {P : Program} {f : FuncId} {args : Array Value} {u : FrameMode} {L : List HP} {R : Ending → FrameMode → List HP → Prop} (h : CtD P f args u L R) (M : List HP) : CtD P f args u (L ++ M) fun e u' L'' => ∃ L', R e u' L' ∧ L'' = L' ++ M := by
  intro F w hs
  have hs' : Sat w (Star (F :: M) :: L) := by
    refine Sat.fold.1 (hs.perm ?_)
    refine List.Perm.cons F ?_
    exact List.perm_append_comm
  refine callsD_mono (h _ w hs') ?_
  rintro e u' w' ⟨hne, L', hR, hs2⟩
  refine ⟨hne, L' ++ M, ⟨L', hR, rfl⟩, ?_⟩
  refine (Sat.fold.2 hs2).perm ?_
  exact List.Perm.cons F List.perm_append_comm
theorem CtD.heap {P : Program} {f : FuncId} {args : Array Value} {u : FrameMode} {L L' : List HP} {R : Ending → FrameMode → List HP → Prop} (hL : Ent L L') (h : CtD P f args u L' R) : CtD P f args u L R := fun F w hs => h F w (hL F w hs)
/-- How a frame leaves. -/
def LeavesQ (P : Program) (N : Nat) (fn : Func) (R : Ending → List HP → Prop) (E : Env) : List Deferred → FrameMode → List HP → Prop
  | [], .returning, L => ∃ v, Res P N fn E L v ∧ R (.returned v) L
  | [], .panicking ch, L => R (.panicked ch) L
  | [], .run, _ => False
  | d :: ds, u, L => u ≠ .run ∧ ∃ f, d.target = .fn (.func f) #[] ∧ CF P f ∧ CtD P f d.args u L fun e u' L' => match e with
    | .returned _ => LeavesQ P N fn R E ds (settle u') L'
    | .panicked ch => LeavesQ P N fn R E ds (raised u' ch) L'
    | .outgrown => False
section
variable {P : Program} {N : Nat} {fn : Func} {R : Ending → List HP → Prop}
theorem leaves_q : ∀ (ds : List Deferred) (u : FrameMode) (L : List HP) (E : Env) (D0 : List Deferred) (F : HP) (a : Act) (w : World), LeavesQ P N fn R E ds u L → Rep N E D0 a → Sat w (F :: L) →
    LeavesIn (FW none) 0 P fn a.tmps (fun e w' => e ≠ .outgrown ∧ ∃ L', R e L' ∧ Sat w' (F :: L')) ds u w := by
  intro ds
  induction ds with
  | nil =>
    intro u L E D0 F a w h hr hs
    cases u with
    | run => exact h.elim
    | returning => obtain ⟨v, hv, hR⟩ := h; exact ⟨v, hv F a w D0 hr hs, by simp, L, hR, hs⟩
    | panicking ch => exact ⟨by simp, L, h, hs⟩
  | cons d ds ih =>
    intro u L E D0 F a w h hr hs
    obtain ⟨hu, f, ht, hcf, hc⟩ := h
    refine ⟨hu, fun h => by simp [FW, Fence.wide] at h, .func f, #[], f, d.args, ht, ?_, fun _ _ => trivial, ?_⟩
    · rw [ht]
      simp [invoke, hcf.h]
    · refine callsD_mono (hc F w hs) ?_
      rintro e u' w' ⟨hne, L', hR, hs'⟩
      cases e with
      | returned v => exact ih _ _ E D0 F a w' hR hr hs'
      | panicked ch => exact ih _ _ E D0 F a w' hR hr hs'
      | outgrown => exact hR.elim
def bodyQD (P : Program) (N : Nat) (fn : Func) (R : Ending → List HP → Prop) : Post
  | .normal, E, D, L | .ret, E, D, L => LeavesQ P N fn R E D .returning L
  | .panic ch, E, D, L => LeavesQ P N fn R E D (.panicking ch) L
  | _, _, _, _ => False
theorem fn_bodyD {f : FuncId} {c : Code} {vs : List Value} {L : List HP} (hf : P.funcs[f]? = some fn) (hb : fn.body = some c) (hn : fn.ntmps = N) (hN : vs.length ≤ N)
    (h : J P N none c (argEnv 0 vs) [] L (bodyQD P N fn R)) : Ct P f vs.toArray L R := by
  intro F w hs
  refine (callsIn_wide (n := 0)).1 (callsIn_of_wp_defers hf hb trivial ?_ rfl)
  have h1 := h F _ w (rep_args vs hN) hs
  rw [hn]
  refine wpIn_mono h1 ?_
  rintro e a w' ⟨E, D, L', q, r, s⟩
  have hd := r.2.1
  cases e with
  | normal =>
    show LeavesIn (FW none) 0 P fn a.tmps _ a.defers _ w'
    rw [hd]
    exact leaves_q D _ L' E D F a w' q r s
  | ret =>
    show LeavesIn (FW none) 0 P fn a.tmps _ a.defers _ w'
    rw [hd]
    exact leaves_q D _ L' E D F a w' q r s
  | panic ch =>
    show LeavesIn (FW none) 0 P fn a.tmps _ a.defers _ w'
    rw [hd]
    exact leaves_q D _ L' E D F a w' q r s
  | exit id => exact q.elim
  | goto l => exact q.elim
  | outgrown => exact q.elim
end
/-! ### A function that recovers -/
abbrev PostS := Exit → Env → List Deferred → List HP → FrameMode → Prop
section
variable (P : Program) (N : Nat)
def JS (c : Code) (E : Env) (D : List Deferred) (L : List HP) (u : FrameMode) (Q : PostS) : Prop :=
  ∀ (F : HP) (a : Act) (w : World) (c0 : Frame) (cs : List Frame), c0.mode = u → Rep N E D a → Sat w (F :: L) →
    c.wpSIn (FW none) 0 P (fun e a' cs' w' => ∃ E' D' L' u', Q e E' D' L' u' ∧ cs' = { c0 with mode := u' } :: cs ∧ Rep N E' D' a' ∧ Sat w' (F :: L')) a (c0 :: cs) w
end
def recM : FrameMode → Value × FrameMode
  | .panicking ({ v, recovered := false, goexit := false } :: older) => (v, .panicking ({ v, recovered := true } :: older))
  | u => (.nilIface, u)
section
variable {P : Program} {N : Nat} {E : Env} {D : List Deferred} {L : List HP} {u : FrameMode} {Q : PostS}
theorem frame_mode (c : Frame) : ({ c with mode := c.mode } : Frame) = c := rfl
theorem JS_of_J {c : Code} (h : J P N none c E D L fun e E D L => Q e E D L u) : JS P N c E D L u Q := by
  intro F a w c0 cs hu hr hs
  refine wpSIn_of_wpIn rfl (wpIn_mono (h F a w hr hs) ?_)
  rintro e a' w' ⟨E', D', L', q, r, s⟩
  subst hu
  exact ⟨E', D', L', c0.mode, q, rfl, r, s⟩
def thnS (K : Env → List Deferred → List HP → FrameMode → Prop) (Q : PostS) : PostS
  | .normal, E, D, L, u => K E D L u
  | e, E, D, L, u => Q e E D L u
theorem JS_seq {x y : Code} (h : JS P N x E D L u (thnS (fun E D L u => JS P N y E D L u Q) Q)) : JS P N (.seq x y) E D L u Q := by
  intro F a w c0 cs hu hr hs
  refine wpSIn_seq ?_
  intro b k hb hro hF hroom
  obtain ⟨e, a', cs', w', hl, ⟨E', D', L', u', q, rfl, r, s⟩, harr⟩ := h F a w c0 cs hu hr hs b k hb hro hF hroom
  refine ⟨e, a', _, w', hl, ?_, harr⟩
  cases e with
  | normal => exact q F a' w' { c0 with mode := u' } cs rfl r s
  | exit id => exact ⟨E', D', L', u', q, rfl, r, s⟩
  | goto l => exact ⟨E', D', L', u', q, rfl, r, s⟩
  | ret => exact ⟨E', D', L', u', q, rfl, r, s⟩
  | panic ch => exact ⟨E', D', L', u', q, rfl, r, s⟩
  | outgrown => exact ⟨E', D', L', u', q, rfl, r, s⟩
theorem recoverD_mode (c0 : Frame) (cs : List Frame) : recoverD (c0 :: cs) = none ∧ recM c0.mode = (.nilIface, c0.mode) ∨ recoverD (c0 :: cs) = some ((recM c0.mode).1, { c0 with mode := (recM c0.mode).2 } :: cs) := by
  cases hm : c0.mode with
  | run => left; simp [recoverD, recM, hm]
  | returning => left; simp [recoverD, recM, hm]
  | panicking l =>
    cases l with
    | nil => left; simp [recoverD, recM, hm]
    | cons p older =>
      obtain ⟨v, rec, gx⟩ := p
      cases rec with
      | true => left; simp [recoverD, recM, hm]
      | false =>
        cases gx with
        | true => left; simp [recoverD, recM, hm]
        | false => right; simp [recoverD, recM, hm]
/-- 'x := recover()': a region of two operations. -/
theorem JS_recover {id d1 d2 : Nat} {ts : Array TypeId} {t1 t2 : TypeId} {p1 p2 : String} {af1 af2 : Array Edge} (h1 : Nat.blt d1 N = true) (h2 : Nat.blt d2 N = true)
    (h : Q .normal (put (put E (some d1) (recM u).1) (some d2) (recM u).1) D L (recM u).2) :
    JS P N (.region id #[⟨some d1, .call ⟨.builtin .recover, #[], ts⟩, t1, p1, af1, none⟩, ⟨some d2, .assign (.tmp d1), t2, p2, af2, none⟩] false) E D L u Q := by
  intro F a w c0 cs hu hr hs
  refine wpSIn_region ?_
  have e1 : (execOp a.eval ⟨some d1, .call ⟨.builtin .recover, #[], ts⟩, t1, p1, af1, none⟩).run P w = .ok .recover w := by simp [execOp, resolve, invoke, builtin]
  have r1 : Rep N (put E (some d1) (recM u).1) D (a.put (some d1) (recM u).1) := hr.put (d := some d1) h1 _
  have e2 : (execOp (a.put (some d1) (recM u).1).eval ⟨some d2, .assign (.tmp d1), t2, p2, af2, none⟩).run P w = .ok (.value (recM u).1) w := by
    have := r1.eval (x := .tmp d1) (v := (recM u).1) (by simp [ev, put, get_cons])
    simp [execOp, this]
  have r2 : Rep N (put (put E (some d1) (recM u).1) (some d2) (recM u).1) D ((a.put (some d1) (recM u).1).put (some d2) (recM u).1) := r1.put (d := some d2) h2 _
  have fin : ∀ cs', cs' = { c0 with mode := (recM u).2 } :: cs → wpOpsSIn (FW none) 0 P #[⟨some d1, .call ⟨.builtin .recover, #[], ts⟩, t1, p1, af1, none⟩, ⟨some d2, .assign (.tmp d1), t2, p2, af2, none⟩] (fun e a' cs' w' => ∃ E' D' L' u', Q e E' D' L' u' ∧ cs' = { c0 with mode := u' } :: cs ∧ Rep N E' D' a' ∧ Sat w' (F :: L')) [1] (a.put (some d1) (recM u).1) cs' w := by
    intro cs' hcs
    simp only [wpOpsSIn, List.getElem?_toArray, List.getElem?_cons_succ, List.getElem?_cons_zero, Region.wanted, if_true, e2]
    exact ⟨fun _ _ => trivial, _, _, _, _, h, hcs, r2, hs⟩
  show wpOpsSIn _ _ _ _ _ [0, 1] _ _ _
  rw [wpOpsSIn]
  simp only [List.getElem?_toArray, List.getElem?_cons_zero, Region.wanted, if_true, e1]
  refine ⟨fun _ _ => trivial, ?_⟩
  rcases recoverD_mode c0 cs with ⟨h3, h4⟩ | h3
  · rw [h3]
    have h5 : (recM u) = (.nilIface, u) := by rw [← hu]; exact h4
    simp only
    have := fin (c0 :: cs) (by rw [h5, ← hu])
    rw [h5] at this
    exact this
  · rw [h3]
    simp only
    rw [hu]
    exact fin _ rfl
def bodyQS (P : Program) (N : Nat) (fn : Func) (R : Ending → FrameMode → List HP → Prop) : PostS
  | .normal, E, D, L, u | .ret, E, D, L, u => D = [] ∧ ∃ v, Res P N fn E L v ∧ R (.returned v) u L
  | .panic ch, _, D, L, u => D = [] ∧ R (.panicked ch) u L
  | _, _, _, _, _ => False
theorem fn_bodyS {f : FuncId} {fn : Func} {c : Code} {vs : List Value} {R : Ending → FrameMode → List HP → Prop} (hf : P.funcs[f]? = some fn) (hb : fn.body = some c) (hn : fn.ntmps = N) (hN : vs.length ≤ N)
    (h : JS P N c (argEnv 0 vs) [] L u (bodyQS P N fn R)) : CtD P f vs.toArray u L R := by
  intro F w hs
  refine callsDIn_of_wpSIn hf hb trivial fun c0 cs hu => ?_
  have h1 := h F _ w c0 cs hu (rep_args vs hN) hs
  rw [hn]
  intro b k hb hro hF hroom
  obtain ⟨e, a', cs', w', hl, ⟨E', D', L', u', q, rfl, r, s⟩, harr⟩ := h1 b k hb hro hF hroom
  refine ⟨e, a', _, w', hl, ?_, harr⟩
  cases e with
  | normal => obtain ⟨hD, v, hv, hR⟩ := q; exact ⟨r.2.1.trans hD, u', rfl, v, hv F a' w' D' r s, by simp, L', hR, s⟩
  | ret => obtain ⟨hD, v, hv, hR⟩ := q; exact ⟨r.2.1.trans hD, u', rfl, v, hv F a' w' D' r s, by simp, L', hR, s⟩
  | panic ch => obtain ⟨hD, hR⟩ := q; exact ⟨r.2.1.trans hD, u', rfl, by simp, L', hR, s⟩
  | exit id => exact q.elim
  | goto l => exact q.elim
  | outgrown => exact q.elim
end
end Go.Sp

/- Nil checks, pointers and interfaces compared, type assertions that hold; texts and rows of bytes. -/
namespace Go.Sp
open Go.RowKit
/-- No panic comes out. -/
def noP (Q : Post) : Post
  | .panic _, _, _, _ => False
  | e, E, D, L => Q e E D L
instance calm_noP (Q : Post) : CalmQ (noP Q) := ⟨fun _ _ _ _ h => h⟩
def by8 (bs : List UInt8) : List Value := bs.map fun b => .int .u8 ((b.toNat : Nat) : Int)
abbrev str (bs : List UInt8) : Value := .string ⟨bs.toArray⟩
theorem length_by8 (bs : List UInt8) : (by8 bs).length = bs.length := by simp [by8]
theorem by8_get {bs : List UInt8} {i : Nat} {b : UInt8} (h : bs[i]? = some b) : (by8 bs)[i]? = some (.int .u8 ((b.toNat : Nat) : Int)) := by simp [by8, h]
section
variable {P : Program} {N : Nat} {rd : Option Nat} {E : Env} {D : List Deferred} {L : List HP} {Q : Post} {next : Env → List Deferred → List HP → Prop}
variable {d : Option Nat} {ty : TypeId} {pos : String} {after : Array Edge} {g : Option (Nat × Bool)}
theorem J_calm {c : Code} (h : J P N rd c E D L (noP Q)) : J P N rd c E D L Q := J_mono h fun e _ _ _ q => by cases e <;> first | exact q | exact q.elim
/-- An operation that only reads. -/
theorem JO_q {o : Oper} {v : Value} (hnd : ∀ c, o.op ≠ .defer c) (hq : JQ P N o E D L v) (hd : dok N o.dst = true) (h : next (put E o.dst v) D L) : JO P N rd o E D L next Q :=
  JO_value hnd hd fun F a w hr hs => ⟨v, w, L, hq F a hr w hs, hs, h⟩
theorem JQ_nilCheck {x : Operand} {p : Addr} (hx : ev E x = some (.pointer (some p))) : JQ P N ⟨d, .nilCheck x, ty, pos, after, g⟩ E D L (.pointer (some p)) := fun F a hr w hs => by simp [execOp, hr.eval hx]
theorem run_eqP {t e : TypeId} [TU P t (.pointer e)] (p : Option Addr) (w : World) : (Op.equal t (.pointer p) (.pointer none)).run P w = .ok p.isNone w := by
  unfold Op.equal
  rw [show Op.maxDepth = 9999 + 1 from rfl]
  unfold Op.equalIn
  cases p <;> simp [run_underlying' (TU.h (P := P) (t := t))]
theorem JQ_eqP {x : Operand} {t e u : TypeId} [TU P t (.pointer e)] {p : Option Addr} (hx : ev E x = some (.pointer p)) : JQ P N ⟨d, .binOp .eql t x (.const (.pointer none)) u, ty, pos, after, g⟩ E D L (.bool p.isNone) := fun F a hr w hs => by
  have h3 : a.eval (.const (.pointer none)) = .pointer none := rfl
  simp [execOp, hr.eval hx, h3, eqGuard, binOp, run_eqP]
theorem JQ_neP {x : Operand} {t e u : TypeId} [TU P t (.pointer e)] {p : Option Addr} (hx : ev E x = some (.pointer p)) : JQ P N ⟨d, .binOp .neq t x (.const (.pointer none)) u, ty, pos, after, g⟩ E D L (.bool p.isSome) := fun F a hr w hs => by
  have h3 : a.eval (.const (.pointer none)) = .pointer none := rfl
  cases p <;> simp [execOp, hr.eval hx, h3, eqGuard, binOp, run_eqP]
def isNilI : Value → Bool | .nilIface => true | _ => false
theorem run_eqI {t : TypeId} {ms : Array (String × TypeId)} [TU P t (.interface ms)] (v : Value) (hv : v = .nilIface ∨ ∃ u x, v = .iface u x) (w : World) : (Op.equal t v .nilIface).run P w = .ok (isNilI v) w := by
  unfold Op.equal
  rw [show Op.maxDepth = 9999 + 1 from rfl]
  unfold Op.equalIn
  rcases hv with rfl | ⟨u, x, rfl⟩ <;> simp [run_underlying' (TU.h (P := P) (t := t)), isNilI]
theorem JQ_eqI0 {x : Operand} {t u : TypeId} {ms : Array (String × TypeId)} [TU P t (.interface ms)] (hx : ev E x = some .nilIface) : JQ P N ⟨d, .binOp .eql t x (.const .nilIface) u, ty, pos, after, g⟩ E D L (.bool true) := fun F a hr w hs => by
  have h3 : a.eval (.const .nilIface) = .nilIface := rfl
  simp [execOp, hr.eval hx, h3, eqGuard, binOp, run_eqI (P := P) (t := t) .nilIface (.inl rfl) w, isNilI]
theorem JQ_eqI1 {x : Operand} {t u s : TypeId} {v : Value} {ms : Array (String × TypeId)} [TU P t (.interface ms)] (hx : ev E x = some (.iface s v)) : JQ P N ⟨d, .binOp .eql t x (.const .nilIface) u, ty, pos, after, g⟩ E D L (.bool false) := fun F a hr w hs => by
  have h3 : a.eval (.const .nilIface) = .nilIface := rfl
  simp [execOp, hr.eval hx, h3, eqGuard, binOp, run_eqI (P := P) (t := t) (.iface s v) (.inr ⟨s, v, rfl⟩) w, isNilI]
theorem JQ_assertT {x : Operand} {xt t : TypeId} {v : Value} {dd : TypeDesc} [TU P t dd] (hni : ∀ ms, dd ≠ .interface ms) (hx : ev E x = some (.iface t v)) : JQ P N ⟨d, .typeAssert x xt t true, ty, pos, after, g⟩ E D L (.tuple [v, .bool true].toArray) := fun F a hr w hs => by
  have h1 := run_underlying' (TU.h (P := P) (t := t) (d := dd)) w
  cases dd <;> simp_all [execOp, Instr.typeAssert, hr.eval hx]
/-! ### Texts and rows of bytes -/
theorem JO_bytes {src dst e : TypeId} [TU P src .string] [TU P dst (.slice e)] [TU P e (.int .u8)] {x : Operand} {bs : List UInt8} (hx : ev E x = some (str bs)) (hn : bs.length ≤ maxLen) (hd : dok N d = true)
    (h : ∀ b cap, bs.length ≤ cap → next (put E d (.slice (some ⟨b, 0, none⟩) bs.length cap)) D (Vw 1 (.slice (some ⟨b, 0, none⟩) bs.length cap) bs.length (by8 bs) :: L)) : JO P N rd ⟨d, .convert src dst x, ty, pos, after, g⟩ E D L next Q :=
  JO_value (fun c => by simp) hd fun F a w hr hs => by
    have h1 := run_bytes_of_string (P := P) w src dst e ⟨bs.toArray⟩ TU.h TU.h TU.h
    have e1 : (⟨bs.toArray⟩ : ByteArray).size = bs.length := by simp [ByteArray.size]
    rw [e1] at h1
    have e2 : bytesRow ⟨bs.toArray⟩ (grownCap w bs.length 0 e) = (by8 bs ++ List.replicate (grownCap w bs.length 0 e - bs.length) (Value.int .u8 0)).toArray := by
      apply Array.ext'
      simp [bytesRow, by8, e1]
    rw [e2] at h1
    have hC : ∀ i u, (by8 bs)[i]? = some u → (by8 bs ++ List.replicate (grownCap w bs.length 0 e - bs.length) (Value.int .u8 0))[i]? = some u := fun i u hu => by
      rw [List.getElem?_append_left (List.getElem?_eq_some_iff.1 hu).1]
      exact hu
    generalize (by8 bs ++ List.replicate (grownCap w bs.length 0 e - bs.length) (Value.int .u8 0)) = C at h1 hC
    generalize hfz : (C.toArray.size, C.toArray.size + 1) = fz at h1
    have e3 : (execOp a.eval ⟨d, .convert src dst x, ty, pos, after, g⟩).run P w = .ok (.value (.slice (some ⟨w.heap.size, 0, none⟩) bs.length (grownCap w bs.length 0 e))) (w.drew.alloc (.cells C.toArray e fz)) := by simp [execOp, hr.eval hx, h1]
    refine ⟨_, _, Vw 1 (.slice (some ⟨w.heap.size, 0, none⟩) bs.length (grownCap w bs.length 0 e)) bs.length (by8 bs) :: L, e3, ?_, h w.heap.size (grownCap w bs.length 0 e) (grownCap_ge w bs.length 0 e)⟩
    have h2 : Sat (w.drew.alloc (.cells C.toArray e fz)) (ro w.heap.size (.cells C.toArray e fz) :: F :: L) := ((hs.world (w' := w.drew) rfl).new (.cells C.toArray e fz)).freeze
    refine Sat.swap (Sat.conv h2 fun k hk => ?_)
    refine ⟨by rw [length_by8, Nat.mul_one], hn, some ⟨w.heap.size, 0, none⟩, _, rfl, .inr ⟨w.heap.size, 0, _, e, _, rfl, hk, fun i u hu => ?_⟩⟩
    rw [Nat.zero_add]
    exact hC i u hu
theorem JQ_str {src dst e : TypeId} [TU P src (.slice e)] [TU P e (.int .u8)] [TU P dst .string] {x : Operand} {bs : List UInt8} {p : Option Addr} {n cap : Nat} (hx : ev E x = some (.slice p n cap)) (hn : bs.length = n) [hv : HV L (.slice p n cap) 1 n (by8 bs)] :
    JQ P N ⟨d, .convert src dst x, ty, pos, after, g⟩ E D L (str bs) := fun F a hr w hs => by
  subst hn
  obtain ⟨M, hm⟩ := hv.h F w hs
  have hc : bs.length = 0 ∨ ∃ b o, p = some ⟨b, o, none⟩ := Sat.out hm fun k ⟨_, _, p', c', e', h⟩ => by
    cases e'
    exact h.imp id fun ⟨b, o, _, _, _, h1, _⟩ => ⟨b, o, h1⟩
  have key : ∀ a' : Addr, p = some a' → (∀ j (hj : j < bs.length), w.cell? (a'.add j) = some (.int .u8 ((bs[j].toNat : Nat) : Int))) → (convert src dst (.slice p bs.length cap)).run P w = .ok (.string ⟨bs.toArray⟩) w := by
    rintro a' rfl h
    exact run_convert_bytes_back w src dst e a' cap bs TU.h TU.h TU.h h
  have hrun : (convert src dst (.slice p bs.length cap)).run P w = .ok (.string ⟨bs.toArray⟩) w := by
    rcases hc with h0 | ⟨b, o, rfl⟩
    · have hb : bs = [] := List.eq_nil_of_length_eq_zero h0
      subst hb
      cases p with
      | none =>
        have := run_convert_bytes_nil (P := P) w src e TU.h TU.h 0 cap dst TU.h
        exact this
      | some a' => exact key a' rfl fun j hj => absurd hj (Nat.not_lt_zero _)
    · refine key _ rfl fun j hj => ?_
      have := lds_vw1 (L := L) (n := bs.length) (cap := cap) (b := b) (o := o) (j := j) hj (by8_get (List.getElem?_eq_getElem hj)) F w hs
      simp only [addr_add]
      exact this
  simp [execOp, hr.eval hx, hrun]
/-- v[:j:j]. -/
theorem JQ_sub3 {t e : TypeId} [TU P t (.slice e)] {z : Value} {n k : Nat} [TI P e z n k] {x hi mx : Operand} {p : Option Addr} {len cap j : Nat} {ik ik2 : IntKind} (hx : ev E x = some (.slice p len cap)) (hh : ev E hi = some (.int ik (j : Int))) (hm : ev E mx = some (.int ik2 (j : Int))) (hj : j ≤ cap) :
    JQ P N ⟨d, .slice t x none (some hi) (some mx), ty, pos, after, g⟩ E D L (.slice p j j) := fun F a hr w hs => by
  obtain ⟨i, h1, h2, h3, h4⟩ := TI.h (P := P) (t := e) (z := z) (n := n) (b := k)
  have h5 : (Instr.sliceAt t (.slice p len cap) none (some (.int ik (j : Int))) (some (.int ik2 (j : Int)))).run P w = (Instr.slice t (.slice p len cap) none (some (.int ik (j : Int))) (some (.int ik2 (j : Int)))).run P w := by simp [Instr.sliceAt, run_underlying' (TU.h (P := P) (t := t))]
  have h6 : (if j = 0 then p else p.map (·.add (0 * i.size))) = p := by
    split
    · rfl
    · cases p with
      | none => rfl
      | some a => simp [Addr.add]
  simp [execOp, hr.eval hx, hr.eval hh, hr.eval hm, h5, Instr.slice, Instr.sliceBounds, run_underlying' (TU.h (P := P) (t := t)), run_sliceBound _ ik2 (j : Int) cap _ (by omega) (by omega), run_sliceBound _ ik (j : Int) j _ (by omega) (by omega), run_sizeOf' h1]
  simpa using h6
/-- v[j:]. -/
theorem JQ_tail {t e : TypeId} [TU P t (.slice e)] {z : Value} {n k : Nat} [TI P e z n k] {x lo : Operand} {p : Option Addr} {len cap j : Nat} {ik : IntKind} (hx : ev E x = some (.slice p len cap)) (hh : ev E lo = some (.int ik (j : Int))) (hj : j ≤ len) (_ : len ≤ cap) :
    JQ P N ⟨d, .slice t x (some lo) none none, ty, pos, after, g⟩ E D L (.slice (if cap = j then p else p.map (·.add (j * n))) (len - j) (cap - j)) := fun F a hr w hs => by
  obtain ⟨i, h1, h2, h3, h4⟩ := TI.h (P := P) (t := e) (z := z) (n := n) (b := k)
  have h5 : (Instr.sliceAt t (.slice p len cap) (some (.int ik (j : Int))) none none).run P w = (Instr.slice t (.slice p len cap) (some (.int ik (j : Int))) none none).run P w := by simp [Instr.sliceAt, run_underlying' (TU.h (P := P) (t := t))]
  simp [execOp, hr.eval hx, hr.eval hh, h5, Instr.slice, Instr.sliceBounds, run_underlying' (TU.h (P := P) (t := t)), run_sliceBound _ ik (j : Int) len _ (by omega) (by omega), run_sizeOf' h1, h3]
theorem vw_cut {sz n m cap c : Nat} {p : Option Addr} {cs : List Value} (hm : m ≤ n) (k : Part) (h : Vw sz (.slice p n cap) n cs k) : Vw sz (.slice p m c) m (cs.take (m * sz)) k := by
  obtain ⟨h1, h2, p', c', e, h3⟩ := h
  cases e
  refine ⟨by rw [List.length_take, h1]; exact Nat.min_eq_left (Nat.mul_le_mul_right _ hm), by omega, p, c, rfl, ?_⟩
  rcases h3 with rfl | ⟨b, o, all, e, fz, h4, h5, h6⟩
  · exact .inl (by omega)
  · refine .inr ⟨b, o, all, e, fz, h4, h5, fun i u hu => h6 i u ?_⟩
    rw [List.getElem?_take] at hu
    split at hu
    · exact hu
    · cases hu
theorem vw_drop {sz n j cap c : Nat} {p : Option Addr} {cs : List Value} (hj : j ≤ n) (hc : n ≤ cap) (k : Part) (h : Vw sz (.slice p n cap) n cs k) : Vw sz (.slice (if cap = j then p else p.map (·.add (j * sz))) (n - j) c) (n - j) (cs.drop (j * sz)) k := by
  obtain ⟨h1, h2, p', c', e, h3⟩ := h
  cases e
  refine ⟨by rw [List.length_drop, h1, Nat.sub_mul], by omega, _, c, rfl, ?_⟩
  by_cases hcj : cap = j
  · exact .inl (by omega)
  rcases h3 with rfl | ⟨b, o, all, e, fz, h4, h5, h6⟩
  · exact .inl (by omega)
  · subst h4
    rw [if_neg hcj]
    refine .inr ⟨b, o + j * sz, all, e, fz, by simp [addr_add], h5, fun i u hu => ?_⟩
    rw [List.getElem?_drop] at hu
    have := h6 _ _ hu
    rw [← this]
    congr 1
    omega
theorem by8_take (bs : List UInt8) (m : Nat) : (by8 bs).take (m * 1) = by8 (bs.take m) := by rw [Nat.mul_one]; simp [by8, List.map_take]
theorem by8_drop (bs : List UInt8) (m : Nat) : (by8 bs).drop (m * 1) = by8 (bs.drop m) := by rw [Nat.mul_one]; simp [by8, List.map_drop]
end
end Go.Sp

/- Layer 1: octets: where a reader stands, what ends what is asked, and what makes an error of it. -/
namespace Go.Proofs.YtfelcdbhlahehaaDoor
open Go Go.Sp
instance u20 : TU Tryd.prog 20 (.interface #[]) := ⟨by kernel_rfl⟩
def ifaceMs (P : Program) (t : TypeId) : Array (String × TypeId) := match P.underlying t with | some (.interface ms) => ms | _ => #[]
instance u39 : TU Tryd.prog 39 (.interface (ifaceMs Tryd.prog 39)) := ⟨by kernel_rfl⟩
instance u146 : TU Tryd.prog 146 (.interface (ifaceMs Tryd.prog 146)) := ⟨by kernel_rfl⟩
instance mixed : Mixed Tryd.prog := ⟨by kernel_rfl⟩
/-- A reader's block. -/
abbrev Rd (b : Nat) (v : Value) (pl : Int) : HP := pt b (.cells #[v, .int .i64 pl] 101 (0, 0))
/-- A fault's. -/
abbrev Ft (b : Nat) (code at_ : Int) : HP := pt b (.cells #[.int .i64 code, .int .i64 at_] 47 (0, 0))
abbrev ptr (b : Nat) : Value := .pointer (some ⟨b, 0, none⟩)
abbrev faultI (q : Nat) : Value := .iface 96 (ptr q)
attribute [local irreducible] J JL JO Ct JG JQ JS CtD
theorem place_nil : Ct Tryd.prog 28 #[.pointer none] [] (RetV (.int .i64 0) []) := by
  refine fn_ret (vs := [_]) Tryd.func28 rfl Tryd.ntmps28 (by simp) ?_
  repeat (first | (first | refine J_region ?_ | refine JL_nil ?_ | refine J_seq ?_ | refine J_condT rfl ?_ | refine J_ret ?_) | (first | ((first | refine JL_step rfl ?_); first | refine JO_q (by simp) (JQ_eqP rfl) rfl ?_ | refine JO_move rfl rfl ?_ | refine JO_assign rfl rfl ?_)))
  exact ret_oneV rfl rfl .nil
theorem place_c (b : Nat) (v : Value) (pl : Int) : Ct Tryd.prog 28 #[ptr b] [Rd b v pl] (RetV (.int .i64 pl) [Rd b v pl]) := by
  refine fn_ret (vs := [_]) Tryd.func28 rfl Tryd.ntmps28 (by simp) ?_
  repeat (first | (first | refine J_region ?_ | refine JL_nil ?_ | refine J_seq ?_ | refine J_skip ?_ | refine J_condF rfl ?_ | refine J_ret ?_) | (first | ((first | refine JL_step rfl ?_); first | refine JO_q (by simp) (JQ_eqP rfl) rfl ?_ | refine JO_q (by simp) (JQ_nilCheck rfl) rfl ?_ | refine JO_move rfl rfl ?_ | refine JO_assign rfl rfl ?_ | refine JO_field0 rfl rfl ?_ | refine JO_load rfl rfl ?_)))
  exact ret_oneV rfl rfl Ent.sel
theorem left_nil : Ct Tryd.prog 44 #[.pointer none] [] (RetV (.int .i64 0) []) := by
  refine fn_ret (vs := [_]) Tryd.func44 rfl Tryd.ntmps44 (by simp) ?_
  repeat (first | (first | refine J_region ?_ | refine JL_nil ?_ | refine J_seq ?_ | refine J_condT rfl ?_ | refine J_ret ?_) | (first | ((first | refine JL_step rfl ?_); first | refine JO_q (by simp) (JQ_eqP rfl) rfl ?_ | refine JO_move rfl rfl ?_ | refine JO_assign rfl rfl ?_)))
  exact ret_oneV rfl rfl .nil
theorem left_c (b : Nat) (p : Option Addr) (n cap : Nat) (pl : Int) : Ct Tryd.prog 44 #[ptr b] [Rd b (.slice p n cap) pl] (RetV (.int .i64 (n : Int)) [Rd b (.slice p n cap) pl]) := by
  refine fn_ret (vs := [_]) Tryd.func44 rfl Tryd.ntmps44 (by simp) ?_
  repeat (first | (first | refine J_region ?_ | refine JL_nil ?_ | refine J_seq ?_ | refine J_skip ?_ | refine J_condF rfl ?_ | refine J_ret ?_) | (first | ((first | refine JL_step rfl ?_); first | refine JO_q (by simp) (JQ_eqP rfl) rfl ?_ | refine JO_q (by simp) (JQ_nilCheck rfl) rfl ?_ | refine JO_move rfl rfl ?_ | refine JO_assign rfl rfl ?_ | refine JO_len rfl rfl ?_ | refine JO_field0 rfl rfl ?_ | refine JO_load rfl rfl ?_)))
  exact ret_oneV rfl rfl Ent.sel
theorem must_t (r : Value) (code : Int) : Ct Tryd.prog 70 #[r, .bool true, .int .i64 code] [] (RetV (.tuple #[]) []) := by
  refine fn_ret (vs := [_, _, _]) Tryd.func70 rfl Tryd.ntmps70 (by simp) ?_
  repeat (first | (first | refine J_region ?_ | refine JL_nil ?_ | refine J_seq ?_ | refine J_skip ?_ | refine J_condF rfl ?_) | (first | ((first | refine JL_step rfl ?_); first | refine JO_move rfl rfl ?_ | refine JO_not rfl rfl ?_)))
  exact ⟨rfl, _, res_none rfl, _, .nil, rfl, rfl⟩
/-- It panics with a fault. -/
def Fails (code at_ : Int) (L0 : List HP) : Ending → List HP → Prop := fun e L => ∃ q : Nat, e = .panicked [{ v := faultI q, recovered := false }] ∧ L = Ft q code at_ :: L0
theorem must_f (b : Nat) (v : Value) (pl code : Int) : Ct Tryd.prog 70 #[ptr b, .bool false, .int .i64 code] [Rd b v pl] (Fails code pl [Rd b v pl]) := by
  refine fn_ret (vs := [_, _, _]) Tryd.func70 rfl Tryd.ntmps70 (by simp) ?_
  repeat (first | (first | refine J_region ?_ | refine JL_nil ?_ | refine J_seq ?_ | refine J_condT rfl ?_) | (first | ((first | refine JL_step rfl ?_); first | refine JO_build (cs := [.int .i64 code, .int .i64 pl]) rfl rfl rfl ?_ | refine JO_panic rfl ?_ | refine JO_move rfl rfl ?_ | refine JO_not rfl rfl ?_ | refine JO_boxA rfl rfl (fun r => ?_) | refine JO_makeIface (by simp) rfl rfl ?_ | refine JO_callV' rfl (place_c b v pl) rfl ?_)))
  exact ⟨rfl, _, Ent.sel, _, rfl, rfl⟩
theorem must_n (code : Int) : Ct Tryd.prog 70 #[.pointer none, .bool false, .int .i64 code] [] (Fails code 0 []) := by
  refine fn_ret (vs := [_, _, _]) Tryd.func70 rfl Tryd.ntmps70 (by simp) ?_
  repeat (first | (first | refine J_region ?_ | refine JL_nil ?_ | refine J_seq ?_ | refine J_condT rfl ?_) | (first | ((first | refine JL_step rfl ?_); first | refine JO_build (cs := [.int .i64 code, .int .i64 0]) rfl rfl rfl ?_ | refine JO_panic rfl ?_ | refine JO_move rfl rfl ?_ | refine JO_not rfl rfl ?_ | refine JO_boxA rfl rfl (fun r => ?_) | refine JO_makeIface (by simp) rfl rfl ?_ | refine JO_callVP rfl (place_nil) rfl ?_)))
  exact ⟨rfl, _, Ent.sel, _, rfl, rfl⟩
/-- 'told', deferred, in a frame that returns: nothing. -/
theorem told_r (e : Nat) : CtD Tryd.prog 69 #[ptr e] .returning [] (fun e u L => e = .returned (.tuple #[]) ∧ u = .returning ∧ L = []) := by
  refine fn_bodyS (vs := [_]) Tryd.func69 rfl Tryd.ntmps69 (by simp) ?_
  refine JS_seq (JS_recover rfl rfl ?_)
  refine JS_of_J ?_
  repeat (first | (first | refine J_region ?_ | refine JL_nil ?_ | refine J_seq ?_ | refine J_condT rfl ?_ | refine J_ret ?_) | (first | ((first | refine JL_step rfl ?_); first | refine JO_q (by simp) (JQ_eqI0 rfl) rfl ?_ | refine JO_move rfl rfl ?_)))
  exact ⟨rfl, _, res_none rfl, rfl, rfl, rfl⟩
/-- In a frame that panics with a fault: the fault is the error. -/
theorem told_p (e q : Nat) : CtD Tryd.prog 69 #[ptr e] (.panicking [{ v := faultI q, recovered := false }]) [pt e (.cells #[.nilIface] 39 (0, 0))]
    (fun en u L => en = .returned (.tuple #[]) ∧ settle u = .returning ∧ L = [pt e (.cells #[faultI q] 39 (0, 0))]) := by
  refine fn_bodyS (vs := [_]) Tryd.func69 rfl Tryd.ntmps69 (by simp) ?_
  refine JS_seq (JS_recover rfl rfl ?_)
  refine JS_of_J ?_
  repeat (first | (first | refine J_region ?_ | refine JL_nil ?_ | refine J_seq ?_ | refine J_skip ?_ | refine J_condF rfl ?_) | (first | ((first | refine JL_step rfl ?_); first | refine JO_q (by simp) (JQ_eqI1 rfl) rfl ?_ | refine JO_q (by simp) (JQ_assertT (by simp) rfl) rfl ?_ | refine JO_q (by simp) (JQ_nilCheck rfl) rfl ?_ | refine JO_move rfl rfl ?_ | refine JO_assign rfl rfl ?_ | refine JO_not rfl rfl ?_ | refine JO_extract rfl rfl rfl ?_ | refine JO_makeIface (by simp) rfl rfl ?_ | refine JO_store rfl rfl (by first | rfl | assumption) rfl ?_)))
  exact ⟨rfl, _, res_none rfl, rfl, rfl, rfl⟩
end Go.Proofs.YtfelcdbhlahehaaDoor

/- Layer 1: octets: a reader of the next n bytes. -/
namespace Go.Proofs.YtfelcdbhlahehaaDoor
open Go Go.Sp
section
variable {N : Nat} {rd : Option Nat} {E : Env} {D : List Deferred} {L : List HP} {Q : Post} {next : Env → List Deferred → List HP → Prop}
variable {d : Option Nat} {ty : TypeId} {pos : String} {after : Array Edge} {g : Option (Nat × Bool)}
theorem JO_callF {code at_ : Int} {L0 K M L1 : List HP} {f : FuncId} [hf : CF Tryd.prog f] {args : Array Operand} {ts : Array TypeId} {vs : List Value} (hx : evs E args.toList = some vs)
    (hc : Ct Tryd.prog f vs.toArray K (Fails code at_ L0)) [hs : Sel K L M] [ha : AppH L0 M L1] (hd : dok N d = true) (h : ∀ q, Q (.panic [{ v := faultI q, recovered := false }]) E D (Ft q code at_ :: L1)) : JO Tryd.prog N rd ⟨d, .call ⟨.value (.func f), args, ts⟩, ty, pos, after, g⟩ E D L next Q :=
  JO_call hx hc.use hd (fun _ _ ⟨_, ⟨_, he, _⟩, _⟩ => by cases he) (fun _ _ ⟨_, ⟨q, he, hL⟩, hL'⟩ => by cases he; rw [hL', hL, List.cons_append, ha.h]; exact h q)
end
attribute [local irreducible] J JL JO Ct JG JQ JS CtD
theorem must_d (r : Value) (code : Int) (p : Prop) [Decidable p] (h : p) : Ct Tryd.prog 70 #[r, .bool (decide p), .int .i64 code] [] (RetV (.tuple #[]) []) := by
  rw [decide_eq_true h]
  exact must_t r code
theorem must_fd (b : Nat) (v : Value) (pl code : Int) (p : Prop) [Decidable p] (h : ¬ p) : Ct Tryd.prog 70 #[ptr b, .bool (decide p), .int .i64 code] [Rd b v pl] (Fails code pl [Rd b v pl]) := by
  rw [decide_eq_false h]
  exact must_f b v pl code
theorem cut_nil (n : Int) : Ct Tryd.prog 84 #[.pointer none, .int .i64 n] [] (Fails 1 0 []) := by
  refine fn_ret (vs := [_, _]) Tryd.func84 rfl Tryd.ntmps84 (by simp) ?_
  repeat (first | (first | refine J_region ?_ | refine JL_nil ?_ | refine J_seq ?_) | (first | ((first | refine JL_step rfl ?_); first | refine JO_q (by simp) (JQ_neP rfl) rfl ?_ | refine JO_callF rfl (must_n 1) rfl (fun q => ?_) | refine JO_move rfl rfl ?_ | refine JO_assign rfl rfl ?_)))
  exact ⟨rfl, _, Ent.sel, _, rfl, rfl⟩
theorem cut_neg (b : Nat) (v : Value) (pl n : Int) (h : n < 0) : Ct Tryd.prog 84 #[ptr b, .int .i64 n] [Rd b v pl] (Fails 2 pl [Rd b v pl]) := by
  refine fn_ret (vs := [_, _]) Tryd.func84 rfl Tryd.ntmps84 (by simp) ?_
  repeat (first | (first | refine J_region ?_ | refine JL_nil ?_ | refine J_seq ?_) | (first | ((first | refine JL_step rfl ?_); first | refine JO_q (by simp) (JQ_neP rfl) rfl ?_ | refine JO_callF rfl (must_fd b v pl 2 (0 ≤ n) (by omega)) rfl (fun q => ?_) | refine JO_move rfl rfl ?_ | refine JO_assign rfl rfl ?_ | refine JO_geq rfl rfl rfl ?_ | refine JO_callVP rfl (must_t (ptr b) 1) rfl ?_)))
  exact ⟨rfl, _, Ent.sel, _, rfl, rfl⟩
theorem cut_short (b : Nat) (p : Option Addr) (len cap : Nat) (pl n : Int) (h : (len : Int) < n) : Ct Tryd.prog 84 #[ptr b, .int .i64 n] [Rd b (.slice p len cap) pl] (Fails 3 pl [Rd b (.slice p len cap) pl]) := by
  refine fn_ret (vs := [_, _]) Tryd.func84 rfl Tryd.ntmps84 (by simp) ?_
  repeat (first | (first | refine J_region ?_ | refine JL_nil ?_ | refine J_seq ?_) | (first | ((first | refine JL_step rfl ?_); first | refine JO_q (by simp) (JQ_neP rfl) rfl ?_ | refine JO_q (by simp) (JQ_nilCheck rfl) rfl ?_ | refine JO_callF rfl (must_fd b (.slice p len cap) pl 3 (n ≤ (len : Int)) (by omega)) rfl (fun q => ?_) | refine JO_move rfl rfl ?_ | refine JO_assign rfl rfl ?_ | refine JO_len rfl rfl ?_ | refine JO_field0 rfl rfl ?_ | refine JO_load rfl rfl ?_ | refine JO_leq rfl rfl rfl ?_ | refine JO_geq rfl rfl rfl ?_ | refine JO_callVP rfl (must_t (ptr b) 1) rfl ?_ | refine JO_callVP rfl (must_d (ptr b) 2 (0 ≤ n) (by omega)) rfl ?_)))
  exact ⟨rfl, _, Ent.sel, _, rfl, rfl⟩
end Go.Proofs.YtfelcdbhlahehaaDoor

/- Drawn regions that read, and then store: what is read stays until the m-th operation (the first store) has come up. -/
namespace Go.Sp
open Go.RowKit
section
variable {P : Program} {ops : Array Oper} {Q : Exit → Act → World → Prop} {md : Region.Mode} {T U : World → Prop} {m : Nat}
def wpAnyM (P : Program) (md : Region.Mode) (ops : Array Oper) (Q : Exit → Act → World → Prop) (m : Nat) (T : World → Prop) : Nat → Array Bool → Act → World → Prop
  | 0, l, a, w => Region.ready md ops l = [] ∧ Q .normal a w
  | fuel + 1, l, a, w => (Region.ready md ops l = [] → Q .normal a w) ∧
    ∀ i ∈ Region.ready md ops l, wpOp P ops Q i (fun a' w' => ((l.setIfInBounds i true).getD m true = false → T w') ∧ wpAnyM P md ops Q m T fuel (l.setIfInBounds i true) a' w') a w
theorem wpAny_of_M : ∀ (fuel : Nat) (l : Array Bool) (a : Act) (w : World), wpAnyM P md ops Q m T fuel l a w → wpAny P md ops Q fuel l a w
  | 0, _, _, _, h => h
  | fuel + 1, _, _, _, h => ⟨h.1, fun i hi => wpOp_mono (fun a' w' h' => wpAny_of_M fuel _ a' w' h'.2) (h.2 i hi)⟩
/-- Where U is known: always; or as long as the m-th has not come up, which waits for i. -/
def Good (md : Region.Mode) (ops : Array Oper) (m i : Nat) (T U : World → Prop) (l : Array Bool) : Prop :=
  (∀ w, U w) ∨ ((∀ w, T w → U w) ∧ l.getD m true = false ∧ ∃ om, ops[m]? = some om ∧ ∃ e ∈ om.after, Region.binds md e = true ∧ e.on = i)
theorem unlisted {i : Nat} {l : Array Bool} (h0 : l.getD i true = false) : l.getD i false = false := by
  rcases Nat.lt_or_ge i l.size with h' | h'
  · simp [h'] at h0 ⊢; exact h0
  · simp [Array.getElem?_eq_none h'] at h0
theorem wpAnyM_first {i : Nat} {oi : Oper} {v : Value} (hi : ops[i]? = some oi) (hsel : ∀ (j : Nat) (o : Oper) cs b, ops[j]? = some o → o.op ≠ .select cs b) (hmi : m ≠ i)
    (hQ : ∀ c a w, Q (.panic c) (a.put oi.dst v) w → Q (.panic c) a w) :
    ∀ (fuel : Nat) (l : Array Bool) (a : Act) (w : World),
      (∀ j oj, ops[j]? = some oj → j ≠ i → l.getD j true = false → (∀ e ∈ oj.after, Region.binds md e = true → e.on ≠ i) → oi.apart ops oj = true) →
      i ∈ Region.ready md ops l → Good md ops m i T U l → YieldsIf P ops U oi v a → U w → (l.getD m true = false → T w) →
      wpAnyM P md ops Q m T fuel (l.setIfInBounds i true) (a.put oi.dst v) w → wpAnyM P md ops Q m T (fuel + 1) l a w := by
  intro fuel
  induction fuel with
  | zero =>
    intro l a w _ hr _ hy hU hT H
    refine ⟨fun h => (by rw [h] at hr; cases hr), fun j hj => ?_⟩
    by_cases hji : j = i
    · subst hji
      exact hy.wpOp hi hU ⟨fun hf => hT (by rw [getD_set_ne true (Ne.symm hmi)] at hf; exact hf), H⟩
    · have := ready_mono hj hji
      rw [H.1] at this
      cases this
  | succ fuel ih =>
    intro l a w hfree hr hgood hy hU hT H
    refine ⟨fun h => (by rw [h] at hr; cases hr), fun j hj => ?_⟩
    by_cases hji : j = i
    · subst hji
      exact hy.wpOp hi hU ⟨fun hf => hT (by rw [getD_set_ne true (Ne.symm hmi)] at hf; exact hf), H⟩
    · have h1 := H.2 j (ready_mono hj hji)
      obtain ⟨hjun, oj, hoj, hall⟩ := mem_ready.1 hj
      have hnot : ∀ e ∈ oj.after, Region.binds md e = true → e.on ≠ i := fun e he hb heq => by
        have h1 := hall e he hb
        rw [heq, unlisted (mem_ready.1 hr).1] at h1
        cases h1
      have h2 := wpOp_putIf hoj (hfree j oj hoj hji hjun hnot) (fun cs b => hsel i oi cs b hi) (fun cs b => hsel j oj cs b hoj) hQ hy h1
      have hfree' : ∀ k ok, ops[k]? = some ok → k ≠ i → (l.setIfInBounds j true).getD k true = false →
          (∀ e ∈ ok.after, Region.binds md e = true → e.on ≠ i) → oi.apart ops ok = true := fun k ok hk hki hun hno => by
        refine hfree k ok hk hki ?_ hno
        by_cases hjk : j = k
        · subst hjk; exact hjun
        · rw [getD_set_ne true hjk] at hun; exact hun
      have hmflag : ((l.setIfInBounds i true).setIfInBounds j true).getD m true = (l.setIfInBounds j true).getD m true := by
        rw [Array.setIfInBounds_comm _ _ (Ne.symm hji), getD_set_ne true (Ne.symm hmi)]
      have hgood' : Good md ops m i T U (l.setIfInBounds j true) ∧ ∀ w', ((l.setIfInBounds j true).getD m true = false → T w') → U w' := by
        rcases hgood with hg | ⟨hg1, hg2, om, hg3, hg4⟩
        · exact ⟨.inl hg, fun w' _ => hg w'⟩
        · have hjm : j ≠ m := by
            intro h
            subst h
            rw [hoj] at hg3
            cases hg3
            obtain ⟨e, he, hb, hon⟩ := hg4
            exact hnot e he hb hon
          have hf : (l.setIfInBounds j true).getD m true = false := by rw [getD_set_ne true hjm]; exact hg2
          exact ⟨.inr ⟨hg1, hf, om, hg3, hg4⟩, fun w' h => hg1 w' (h hf)⟩
      refine wpOp_mono (fun a' w' h3 => ?_) h2
      have hT' : (l.setIfInBounds j true).getD m true = false → T w' := fun hf => h3.2.1 (by rw [hmflag]; exact hf)
      refine ⟨hT', ih (l.setIfInBounds j true) a' w' hfree' (ready_mono hr (Ne.symm hji)) hgood'.1 h3.1 (hgood'.2 w' hT') hT' ?_⟩
      rw [Array.setIfInBounds_comm _ _ hji]
      exact h3.2.2
end
section
variable {P : Program} {N : Nat} {E : Env} {D : List Deferred} {L L0 : List HP} {Q : Post} {m : Nat}
variable (P N) in
def JM (ops : Array Oper) (m : Nat) (fuel : Nat) (ls : List Bool) (E : Env) (D : List Deferred) (L L0 : List HP) (Q : Post) : Prop :=
  ∀ (F : HP) (a : Act) (w : World), Rep N E D a → Sat w (F :: L) → (ls.getD m true = false → Ent L L0) → wpAnyM P .any ops (lift N F Q) m (fun w => Sat w (F :: L0)) fuel ls.toArray a w
variable (P N) in
def JQ0 (o : Oper) (E : Env) (D : List Deferred) (v : Value) : Prop := ∀ a, Rep N E D a → ∀ w, (execOp a.eval o).run P w = .ok (.value v) w
theorem J_regionM [Mixed P] (m : Nat) (L0 : List HP) {id : Nat} {ops : Array Oper} (hl : Ent L L0) (h : JM P N ops m (cnt ops.toList) (flags ops.toList) E D L L0 Q) : J P N none (.region id ops true) E D L Q := fun F a w hr hs => by
  refine (wpIn_wide (n := 0)).2 (wp_region_any Mixed.h (wpAny_of_M (m := m) (T := fun w => Sat w (F :: L0)) _ _ _ _ ?_))
  have := h F a { w with drawn := w.drawn + 1 } hr (hs.world rfl) (fun _ => hl)
  rw [flags_eq, cnt_eq, List.toArray_replicate, Array.length_toList] at this
  exact this
theorem getD_toArray (ls : List Bool) (m : Nat) : ls.toArray.getD m true = ls.getD m true := by simp
theorem JM_n [hc : CalmQ Q] {ops : Array Oper} {fuel : Nat} {ls : List Bool} {i : Nat} {o : Oper} {v : Value} (hn : findQ ops ls (idxs ops.toList 0) = some i) (ho : ops.toList[i]? = some o) (hg : o.guard = none) (hs : Region.noSelect ops = true) (hf : Region.free .any ops ls.toArray i = true)
    (hmi : Nat.beq m i = false) (hm : (match ops.toList[m]? with | some om => depB om i | none => false) = true) (hu : ls.getD m true = false) (hd : dok N o.dst = true) (hl : Ent L L0) (hq : JQ P N o E D L0 v) (h : JM P N ops m fuel (ls.set i true) (put E o.dst v) D L L0 Q) : JM P N ops m (fuel + 1) ls E D L L0 Q := by
  intro F a w hrep hsat _
  have ho' := ho
  rw [Array.getElem?_toList] at ho
  have hmi' : m ≠ i := fun e => by rw [e] at hmi; simp at hmi
  have hready : i ∈ Region.ready .any ops ls.toArray := by simpa using findQ_ready hn
  refine wpAnyM_first (U := fun w => Sat w (F :: L0)) (v := v) ho (Region.noSelect_spec hs) hmi' ?_ fuel ls.toArray a w (Region.free_spec ho hf) hready ?_ (.inl ⟨by simp [Region.wanted, hg], fun w hw => hq F a hrep w hw⟩) (hl F w hsat) (fun _ => hl F w hsat) ?_
  · rintro c a' w' ⟨E', D', L', q, _⟩
    exact absurd q (hc.h c E' D' L')
  · refine .inr ⟨fun _ h => h, by rw [getD_toArray]; exact hu, ?_⟩
    split at hm
    · rename_i om hom
      refine ⟨om, by rw [Array.getElem?_toList] at hom; exact hom, ?_⟩
      unfold depB at hm
      rw [List.any_eq_true] at hm
      obtain ⟨e, he, hb⟩ := hm
      simp only [Bool.and_eq_true] at hb
      exact ⟨e, Array.mem_toList_iff.1 he, hb.1, Nat.eq_of_beq_eq_true hb.2⟩
    · cases hm
  · have := h F (a.put o.dst v) w (hrep.put hd v) hsat (fun _ => hl)
    rw [List.setIfInBounds_toArray]
    exact this
theorem JM_0 [hc : CalmQ Q] {ops : Array Oper} {fuel : Nat} {ls : List Bool} {i : Nat} {o : Oper} {v : Value} (hn : findQ ops ls (idxs ops.toList 0) = some i) (ho : ops.toList[i]? = some o) (hg : o.guard = none) (hs : Region.noSelect ops = true) (hf : Region.free .any ops ls.toArray i = true)
    (hmi : Nat.beq m i = false) (hd : dok N o.dst = true) (hq : JQ0 P N o E D v) (h : JM P N ops m fuel (ls.set i true) (put E o.dst v) D L L0 Q) : JM P N ops m (fuel + 1) ls E D L L0 Q := by
  intro F a w hrep hsat hent
  rw [Array.getElem?_toList] at ho
  have hmi' : m ≠ i := fun e => by rw [e] at hmi; simp at hmi
  have hready : i ∈ Region.ready .any ops ls.toArray := by simpa using findQ_ready hn
  refine wpAnyM_first (U := fun _ => True) (v := v) ho (Region.noSelect_spec hs) hmi' ?_ fuel ls.toArray a w (Region.free_spec ho hf) hready (.inl fun _ => trivial) (.inl ⟨by simp [Region.wanted, hg], fun w _ => hq a hrep w⟩) trivial (fun hu => hent (by rw [getD_toArray] at hu; exact hu) F w hsat) ?_
  · rintro c a' w' ⟨E', D', L', q, _⟩
    exact absurd q (hc.h c E' D' L')
  · have := h F (a.put o.dst v) w (hrep.put hd v) hsat (fun hu => hent (by
      have h1 := getD_set_ne (listed := ls.toArray) (i := i) (j := m) true (Ne.symm hmi')
      rw [List.setIfInBounds_toArray, getD_toArray, getD_toArray] at h1
      rw [← h1]
      exact hu))
    rw [List.setIfInBounds_toArray]
    exact this
theorem run_then_value {P : Program} (s : Sem Value) (w w' : World) (n : Next) (h : (do pure (Next.value (← s)) : Sem Next).run P w = .ok n w') : ∃ v, n = .value v := by
  rw [Sem.run_bind] at h
  cases hr : s.run P w with
  | ok u w1 => rw [hr] at h; simp only [Result.andThen_ok, Sem.run_pure, Result.ok.injEq] at h; exact ⟨u, h.1.symm⟩
  | halt x w1 => rw [hr] at h; cases h
/-- It stores, or yields a value. -/
def Plain (P : Program) (o : Oper) : Prop := ∀ (ρ : Operand → Value) (w w' : World) (n : Next), (execOp ρ o).run P w = .ok n w' → n = .skip ∨ ∃ v, n = .value v
section
variable {d : Option Nat} {ty : TypeId} {pos : String} {after : Array Edge} {g : Option (Nat × Bool)}
theorem plain_store {t : TypeId} {x y : Operand} : Plain P ⟨d, .store t x y, ty, pos, after, g⟩ := fun _ _ _ _ h => .inl (run_then_skip _ _ _ _ h)
theorem plain_box {t : TypeId} {x : Operand} : Plain P ⟨d, .box t x, ty, pos, after, g⟩ := fun _ _ _ _ h => .inr (run_then_value _ _ _ _ h)
theorem plain_alloc {t : TypeId} : Plain P ⟨d, .alloc t, ty, pos, after, g⟩ := fun _ _ _ _ h => .inr (run_then_value _ _ _ _ h)
theorem plain_row {t : TypeId} {n : Nat} {ps : Array (Nat × Operand)} : Plain P ⟨d, .buildSlice t n ps, ty, pos, after, g⟩ := fun _ _ _ _ h => .inr (run_then_value _ _ _ _ h)
theorem JQ0_move {x : Operand} {v : Value} (hx : ev E x = some v) : JQ0 P N ⟨d, .move x, ty, pos, after, g⟩ E D v := fun a hr w => by simp [execOp, hr.eval hx]
theorem JQ0_assign {x : Operand} {v : Value} (hx : ev E x = some v) : JQ0 P N ⟨d, .assign x, ty, pos, after, g⟩ E D v := fun a hr w => by simp [execOp, hr.eval hx]
theorem JQ0_nilCheck {x : Operand} {p : Addr} (hx : ev E x = some (.pointer (some p))) : JQ0 P N ⟨d, .nilCheck x, ty, pos, after, g⟩ E D (.pointer (some p)) := fun a hr w => by simp [execOp, hr.eval hx]
theorem JQ0_add {x y : Operand} {m n : Int} {t u : TypeId} (hx : ev E x = some (.int .i64 m)) (hy : ev E y = some (.int .i64 n)) (hb : -9223372036854775808 ≤ m + n ∧ m + n ≤ 9223372036854775807) : JQ0 P N ⟨d, .binOp .add t x y u, ty, pos, after, g⟩ E D (.int .i64 (m + n)) := fun a hr w => by
  simp [execOp, hr.eval hx, hr.eval hy, eqGuard, binOp, Op.intArith, wrap_in hb]
theorem JQ0_field {s f off ft n : Nat} [TF P s f off ft n] {x : Operand} {b o : Nat} (hx : ev E x = some (.pointer (some ⟨b, o, none⟩))) : JQ0 P N ⟨d, .fieldAddr s x f, ty, pos, after, g⟩ E D (.pointer (some ⟨b, o + off, none⟩)) := fun a hr w => by
  obtain ⟨fs, fl, h1, h2, rfl, rfl, ⟨i, h3, h4⟩, h5⟩ := TF.h (P := P) (s := s) (f := f) (off := off) (ty := ft) (n := n)
  simp [execOp, Instr.fieldAt, hr.eval hx, run_underlying' h1, h2, Instr.sureAddr, fieldPlace, run_sizeOf' h3, h4, h5, addr_add]
theorem JQ0_field0 {s f off ft n : Nat} [TF P s f off ft n] {x : Operand} {b : Nat} (hx : ev E x = some (.pointer (some ⟨b, 0, none⟩))) : JQ0 P N ⟨d, .fieldAddr s x f, ty, pos, after, g⟩ E D (.pointer (some ⟨b, off, none⟩)) := by
  have := JQ0_field (P := P) (N := N) (D := D) (d := d) (ty := ty) (pos := pos) (after := after) (g := g) (s := s) (f := f) hx
  rw [Nat.zero_add] at this
  exact this
end
/-- The one that may come up now: it stores, or makes memory. -/
theorem JM_one {ops : Array Oper} {fuel : Nat} {ls : List Bool} (i : Nat) {o : Oper} (ho : ops.toList[i]? = some o) (hg : o.guard = none) (hr : Region.ready .any ops ls.toArray = [i]) (hp : Plain P o)
    (h : JO P N none o E D L (fun E' D' L' => ((ls.set i true).getD m true = false → Ent L' L0) ∧ JM P N ops m fuel (ls.set i true) E' D' L' L0 Q) Q) : JM P N ops m (fuel + 1) ls E D L L0 Q := by
  intro F a w hrep hsat _
  rw [Array.getElem?_toList] at ho
  refine ⟨fun h0 => (by rw [hr] at h0; cases h0), fun k hk => ?_⟩
  rw [hr] at hk
  simp only [List.mem_singleton] at hk
  subst hk
  simp only [wpOp, ho, Region.wanted, hg, if_true]
  refine .inl ?_
  have h1 := (h F a w hrep hsat (fun a' w' => ((ls.toArray.setIfInBounds k true).getD m true = false → Sat w' (F :: L0)) ∧ wpAnyM P .any ops (lift N F Q) m (fun w => Sat w (F :: L0)) fuel (ls.toArray.setIfInBounds k true) a' w') (fun E' D' L' a' w' hn hr' hs' => by
    rw [List.setIfInBounds_toArray]
    exact ⟨fun hf => hn.1 (by rw [getD_toArray] at hf; exact hf) F w' hs', hn.2 F a' w' hr' hs' hn.1⟩)).2
  rw [show (FW none).round = none from rfl, Oper.semAt_none] at h1
  unfold Oper.wp
  cases hres : (execOp a.eval o).run P w with
  | ok n w' =>
    rw [hres] at h1
    rcases hp _ _ _ _ hres with rfl | ⟨v, rfl⟩
    · exact h1
    · exact h1
  | halt z w' =>
    rw [hres] at h1
    cases z <;> first | exact h1 | exact h1.elim
/-- The same, where what is read stays for good. -/
theorem JG_one {ops : Array Oper} {fuel : Nat} {ls : List Bool} (i : Nat) {o : Oper} (ho : ops.toList[i]? = some o) (hg : o.guard = none) (hr : Region.ready .any ops ls.toArray = [i]) (hp : Plain P o)
    (h : JO P N none o E D L (fun E' D' L' => Ent L' L0 ∧ JG P N ops fuel (ls.set i true) E' D' L' L0 Q) Q) : JG P N ops (fuel + 1) ls E D L L0 Q := by
  intro F a w hrep hsat
  rw [Array.getElem?_toList] at ho
  refine wpAnyH_all hr (by simp) fun k hk => ?_
  simp only [List.mem_singleton] at hk
  subst hk
  simp only [wpOp, ho, Region.wanted, hg, if_true]
  refine .inl ?_
  have h1 := (h F a w hrep hsat (fun a' w' => Sat w' (F :: L0) ∧ wpAnyH P .any ops (lift N F Q) (fun w => Sat w (F :: L0)) fuel (ls.toArray.setIfInBounds k true) a' w') (fun E' D' L' a' w' hn hr' hs' => ⟨hn.1 F w' hs', by
    rw [List.setIfInBounds_toArray]
    exact hn.2 F a' w' hr' hs'⟩)).2
  rw [show (FW none).round = none from rfl, Oper.semAt_none] at h1
  unfold Oper.wp
  cases hres : (execOp a.eval o).run P w with
  | ok n w' =>
    rw [hres] at h1
    rcases hp _ _ _ _ hres with rfl | ⟨v, rfl⟩
    · exact h1
    · exact h1
  | halt z w' =>
    rw [hres] at h1
    cases z <;> first | exact h1 | exact h1.elim
theorem JM_fin {ops : Array Oper} {fuel : Nat} {ls : List Bool} (hr : orL (rdy ops ls) (idxs ops.toList 0) = false) (h : Q .normal E D L) : JM P N ops m fuel ls E D L L0 Q := by
  have hr' : Region.ready .any ops ls.toArray = [] := by
    rw [orL_eq, ← idxs_range] at hr
    rw [rdy_eq, List.filter_eq_nil_iff]
    intro i hi hr'
    rw [List.any_eq_false] at hr
    exact hr i hi hr'
  intro F a w hrep hsat _
  have h0 : lift N F Q .normal a w := ⟨E, D, L, h, hrep, hsat⟩
  cases fuel with
  | zero => exact ⟨hr', h0⟩
  | succ fuel => exact ⟨fun _ => h0, fun i hi => (by rw [hr'] at hi; cases hi)⟩
end
end Go.Sp

/- Layer 1: octets: a reader of the next n bytes, where they are there. -/
namespace Go.Proofs.YtfelcdbhlahehaaDoor
open Go Go.Sp
attribute [local irreducible] J JL JO Ct JG JM JQ JQ0 JS CtD
abbrev tailP (p : Option Addr) (cap n : Nat) : Option Addr := if cap = n then p else p.map (·.add (n * 1))
theorem cut_ok (b : Nat) (p : Option Addr) (len cap : Nat) (pl : Int) (n : Nat) (hn : n ≤ len) (hc : len ≤ cap) (hpl : 0 ≤ pl ∧ pl + n ≤ 9223372036854775807) :
    Ct Tryd.prog 84 #[ptr b, .int .i64 (n : Int)] [Rd b (.slice p len cap) pl]
      (RetE (fun _ : Nat => True) ptr (fun q => [Rd b (.slice (tailP p cap n) (len - n) (cap - n)) (pl + n), Rd q (.slice p n n) pl])) := by
  refine fn_ret (vs := [_, _]) Tryd.func84 rfl Tryd.ntmps84 (by simp) ?_
  repeat (first | (first | refine J_region ?_ | refine JL_nil ?_ | refine J_seq ?_) | (first | ((first | refine JL_step rfl ?_); first | refine JO_q (by simp) (JQ_neP rfl) rfl ?_ | refine JO_q (by simp) (JQ_nilCheck rfl) rfl ?_ | refine JO_move rfl rfl ?_ | refine JO_assign rfl rfl ?_ | refine JO_len rfl rfl ?_ | refine JO_field0 rfl rfl ?_ | refine JO_load rfl rfl ?_ | refine JO_leq rfl rfl rfl ?_ | refine JO_geq rfl rfl rfl ?_ | refine JO_callVP rfl (must_t (ptr b) 1) rfl ?_ | refine JO_callVP rfl (must_d (ptr b) 2 (0 ≤ (n : Int)) (by omega)) rfl ?_ | refine JO_callVP rfl (must_d (ptr b) 3 ((n : Int) ≤ (len : Int)) (by omega)) rfl ?_)))
  refine J_calm ?_
  refine J_regionGS [Rd b (.slice p len cap) pl] ?_
  repeat (first | refine JG_n rfl rfl rfl (by kernel_rfl) (by kernel_rfl) rfl Ent.sel (by first | exact JQ_nilCheck rfl | exact JQ_sub3 rfl rfl rfl (by omega) | exact JQ_build (cs := [.slice p n n, .int .i64 pl]) rfl rfl | exact JQ_move rfl | exact JQ_loadB rfl | exact JQ_field0 rfl) ?_)
  refine JG_one 12 rfl rfl (by kernel_rfl) plain_box (JO_boxA rfl rfl (fun r => ⟨Ent.sel, ?_⟩))
  repeat (first | refine JG_fin rfl ?_ | refine JG_n rfl rfl rfl (by kernel_rfl) (by kernel_rfl) rfl Ent.sel (by first | exact JQ_assign rfl) ?_)
  refine J_seq ?_
  refine J_calm ?_
  refine J_regionM 16 [Rd b (.slice p len cap) pl] Ent.sel ?_
  repeat (first | refine JM_n rfl rfl rfl (by kernel_rfl) (by kernel_rfl) rfl rfl rfl rfl Ent.sel (by first | exact JQ_tail rfl rfl (by omega) (by omega) | exact JQ_nilCheck rfl | exact JQ_move rfl | exact JQ_loadB rfl | exact JQ_field0 rfl | exact JQ_add rfl rfl (by omega)) ?_ | refine JM_0 rfl rfl rfl (by kernel_rfl) (by kernel_rfl) rfl rfl (by first | exact JQ0_move rfl | exact JQ0_nilCheck rfl | exact JQ0_field0 rfl | exact JQ0_add rfl rfl (by omega)) ?_)
  refine JM_one 16 rfl rfl (by kernel_rfl) plain_store (JO_store rfl rfl rfl rfl ⟨fun h => absurd h (by decide), ?_⟩)
  repeat (first | refine JM_0 rfl rfl rfl (by kernel_rfl) (by kernel_rfl) rfl rfl (by first | exact JQ0_nilCheck rfl | exact JQ0_field0 rfl) ?_)
  refine JM_one 19 rfl rfl (by kernel_rfl) plain_store (JO_store rfl rfl rfl rfl ⟨fun h => absurd h (by decide), ?_⟩)
  repeat (first | refine JM_fin rfl ?_)
  repeat (first | (first | refine J_region ?_ | refine JL_nil ?_ | refine J_seq ?_ | refine J_ret ?_) | (first | ((first | refine JL_step rfl ?_); first | refine JO_move rfl rfl ?_ | refine JO_assign rfl rfl ?_)))
  exact ret_one rfl rfl r trivial rfl Ent.sel
end Go.Proofs.YtfelcdbhlahehaaDoor

/- Results in cells of one place; a function that defers. -/
namespace Go.Sp
open Go.RowKit
section
variable {P : Program} {N : Nat} {E : Env} {D : List Deferred} {L : List HP}
theorem res_cell1 {fn : Func} {a t : Nat} [T1 P t] {b : Nat} {v : Value} {cs : List Value} {bt : TypeId} {fz : Nat × Nat} (h : fn.results = #[.cell a t]) (hv : Env.get E a = some (.pointer (some ⟨b, 0, none⟩))) [hb : HB L b (.cells cs.toArray bt fz)] (hg : cs[0]? = some v) : Res P N fn E L v := fun F ac w D hr hs => by
  have h1 : (ac.tmps.getD a undef) = .pointer (some ⟨b, 0, none⟩) := hr.eval (x := .tmp a) hv
  have h2 : w.cell? ⟨b, 0, none⟩ = some v := lds_block (h := hb) hg F w hs
  have h3 : (loadVar t ⟨b, 0, none⟩).run P w = .ok v w := by simp [loadVar, run_isAgg1 (P := P) (t := t), h2]
  have h1 := Array.getD_eq_getD_getElem? .. ▸ h1
  simp [results, h, h1, asAddr, h3]
/-- A slot and a cell. -/
theorem res_tc {fn : Func} {a t u : Nat} [T1 P t] {b : Nat} {v x : Value} {cs : List Value} {bt : TypeId} {fz : Nat × Nat} (h : fn.results = #[.tmp u, .cell a t]) (hx : Env.get E u = some x) (hv : Env.get E a = some (.pointer (some ⟨b, 0, none⟩))) [hb : HB L b (.cells cs.toArray bt fz)] (hg : cs[0]? = some v) :
    Res P N fn E L (.tuple #[x, v]) := fun F ac w D hr hs => by
  have h1 : (ac.tmps.getD a undef) = .pointer (some ⟨b, 0, none⟩) := hr.eval (x := .tmp a) hv
  have h4 : (ac.tmps.getD u undef) = x := hr.eval (x := .tmp u) hx
  have h2 : w.cell? ⟨b, 0, none⟩ = some v := lds_block (h := hb) hg F w hs
  have h3 : (loadVar t ⟨b, 0, none⟩).run P w = .ok v w := by simp [loadVar, run_isAgg1 (P := P) (t := t), h2]
  have h1 := Array.getD_eq_getD_getElem? .. ▸ h1
  simp [results, h, h1, ← h4, asAddr, h3]
/-- A slot and a struct in cells. -/
theorem res_tcW {fn : Func} {a t u n : Nat} [TA P t n] {b : Nat} {x : Value} {cs : List Value} {bt : TypeId} {fz : Nat × Nat} (h : fn.results = #[.tmp u, .cell a t]) (hx : Env.get E u = some x) (hv : Env.get E a = some (.pointer (some ⟨b, 0, none⟩))) [hb : HB L b (.cells cs.toArray bt fz)] (hn : cs.length = n) :
    Res P N fn E L (.tuple #[x, .agg cs.toArray]) := fun F ac w D hr hs => by
  have h1 : (ac.tmps.getD a undef) = .pointer (some ⟨b, 0, none⟩) := hr.eval (x := .tmp a) hv
  have h4 : (ac.tmps.getD u undef) = x := hr.eval (x := .tmp u) hx
  have h2 := run_loadVarW (P := P) (L := L) (t := t) (n := n) (b := b) (cs := cs) (bt := bt) (fz := fz) hn hs
  have h1 := Array.getD_eq_getD_getElem? .. ▸ h1
  simp [results, h, h1, ← h4, asAddr, h2]
end
/-- A function that defers, from its body; what it leaves may be turned. -/
theorem fn_retD {P : Program} {N : Nat} {L : List HP} {f : FuncId} {fn : Func} {c : Code} {vs : List Value} {R : Ending → List HP → Prop} (hf : P.funcs[f]? = some fn) (hb : fn.body = some c) (hn : fn.ntmps = N) (hN : vs.length ≤ N)
    (h : J P N none c (argEnv 0 vs) [] L (bodyQD P N fn fun e L => ∃ L', Ent L L' ∧ R e L')) : Ct P f vs.toArray L R := fun F w hs =>
  (fn_bodyD hf hb hn hN h F w hs).mono fun _ w' ⟨hne, _, ⟨L2, he, hr⟩, s⟩ => ⟨hne, L2, hr, he F w' s⟩
/-! ### Texts -/
section
variable {P : Program} {N : Nat} {E : Env} {D : List Deferred} {L : List HP}
variable {d : Option Nat} {ty : TypeId} {pos : String} {after : Array Edge} {g : Option (Nat × Bool)}
theorem extract_str (bs : List UInt8) (l h : Nat) : (⟨bs.toArray⟩ : ByteArray).extract l h = ⟨((bs.take h).drop l).toArray⟩ := by
  apply ByteArray.ext
  apply Array.ext'
  rw [ByteArray.data_extract]
  simp [List.drop_take]
theorem size_str (bs : List UInt8) : (⟨bs.toArray⟩ : ByteArray).size = bs.length := by simp [ByteArray.size]
theorem JQ_lenS {x : Operand} {t : TypeId} [TU P t .string] {s : ByteArray} (hx : ev E x = some (.string s)) : JQ P N ⟨d, .call ⟨.builtin .len, #[x], #[t]⟩, ty, pos, after, g⟩ E D L (.int .i64 (s.size : Int)) := fun F a hr w hs => by
  simp [execOp, resolve, invoke, builtin, Builtin.len_, hr.eval hx, run_underlying' TU.h, goInt]
/-- s[i]. -/
theorem JQ_idxS {t : TypeId} [TU P t .string] {x y : Operand} {bs : List UInt8} {i : Nat} {ik : IntKind} {c : UInt8} (hx : ev E x = some (str bs)) (hy : ev E y = some (.int ik (i : Int))) (hc : bs[i]? = some c) : JQ P N ⟨d, .index t x y, ty, pos, after, g⟩ E D L (.int .u8 ((c.toNat : Nat) : Int)) := fun F a hr w hs => by
  have h1 : (⟨bs.toArray⟩ : ByteArray)[i]? = some c := by
    have hlt : i < bs.length := (List.getElem?_eq_some_iff.1 hc).1
    have hlt' : i < (⟨bs.toArray⟩ : ByteArray).size := by rw [size_str]; exact hlt
    rw [getElem?_pos (⟨bs.toArray⟩ : ByteArray) i hlt']
    have := (List.getElem?_eq_some_iff.1 hc).2
    rw [← this]
    rfl
  simp [execOp, hr.eval hx, hr.eval hy, Instr.index, asIntOf, run_underlying' (TU.h (P := P) (t := t)), h1]
/-- s[lo:hi]. -/
theorem JQ_sliceS {t : TypeId} [TU P t .string] {x lo hi : Operand} {bs : List UInt8} {l h : Nat} {ik ik2 : IntKind} (hx : ev E x = some (str bs)) (hl : ev E lo = some (.int ik (l : Int))) (hh : ev E hi = some (.int ik2 (h : Int))) (h1 : l ≤ h) (h2 : h ≤ bs.length) :
    JQ P N ⟨d, .slice t x (some lo) (some hi) none, ty, pos, after, g⟩ E D L (str ((bs.take h).drop l)) := fun F a hr w hs => by
  have h5 : (Instr.sliceAt t (str bs) (some (.int ik (l : Int))) (some (.int ik2 (h : Int))) none).run P w = (Instr.slice t (str bs) (some (.int ik (l : Int))) (some (.int ik2 (h : Int))) none).run P w := by simp [Instr.sliceAt, run_underlying' (TU.h (P := P) (t := t))]
  simp [execOp, hr.eval hx, hr.eval hl, hr.eval hh, h5, Instr.slice, Instr.sliceBounds, run_underlying' (TU.h (P := P) (t := t)), size_str, run_sliceBound _ ik2 (h : Int) bs.length _ (by omega) (by omega), run_sliceBound _ ik (l : Int) h _ (by omega) (by omega), extract_str]
end
end Go.Sp

/- Layer 1: octets: a byte, n of them, a part, the end. -/
namespace Go.Proofs.YtfelcdbhlahehaaDoor
open Go Go.Sp
section
variable {E : Env} {L M : List HP} {N : Nat} {fn : Func} {R : Ending → List HP → Prop} {v : Value}
theorem leaves_r (e : Nat) (hv : Res Tryd.prog N fn E L v) (hR : R (.returned v) L) : LeavesQ Tryd.prog N fn R E [⟨.fn (.func 69) #[], #[ptr e]⟩] .returning L := by
  refine ⟨by simp, 69, rfl, inferInstance, ((told_r e).frame L).mono ?_⟩
  rintro en u L' ⟨L1, ⟨rfl, rfl, rfl⟩, rfl⟩
  exact ⟨v, hv, hR⟩
theorem leaves_p (e q : Nat) [hs : Sel [pt e (.cells #[.nilIface] 39 (0, 0))] L M] (hv : Res Tryd.prog N fn E (pt e (.cells #[faultI q] 39 (0, 0)) :: M) v) (hR : R (.returned v) (pt e (.cells #[faultI q] 39 (0, 0)) :: M)) :
    LeavesQ Tryd.prog N fn R E [⟨.fn (.func 69) #[], #[ptr e]⟩] (.panicking [{ v := faultI q, recovered := false }]) L := by
  refine ⟨by simp, 69, rfl, inferInstance, (CtD.heap (fun F w s => s.perm (hs.h.cons F)) ((told_p e q).frame M)).mono ?_⟩
  rintro en u L' ⟨L1, ⟨rfl, hu, rfl⟩, rfl⟩
  show LeavesQ Tryd.prog N fn R E [] (settle u) _
  rw [hu]
  exact ⟨v, hv, hR⟩
end
attribute [local irreducible] J JL JO Ct JG JM JQ JQ0 JS CtD LeavesQ
/-- It hands back x and a fault. -/
def FailsV (x : Value) (code at_ : Int) (L0 : List HP) : Ending → List HP → Prop := fun e L => ∃ q : Nat, e = .returned (.tuple #[x, faultI q]) ∧ L = Ft q code at_ :: L0
theorem byte_nil : Ct Tryd.prog 59 #[.pointer none] [] (FailsV (.int .u8 0) 1 0 []) := by
  refine fn_retD (vs := [_]) Tryd.func59 rfl Tryd.ntmps59 (by simp) ?_
  repeat (first | (first | refine J_region ?_ | refine JL_nil ?_ | refine J_seq ?_) | (first | ((first | refine JL_step rfl ?_); first | refine JO_defer rfl ?_ | refine JO_callF rfl (cut_nil 1) rfl (fun q => ?_) | refine JO_move rfl rfl ?_ | refine JO_assign rfl rfl ?_ | refine JO_alloc1 (by rfl) rfl (fun r => ?_))))
  exact leaves_p _ q (res_tc rfl rfl rfl rfl) ⟨_, Ent.sel, q, rfl, rfl⟩
theorem byte_short (b : Nat) (p : Option Addr) (cap : Nat) (pl : Int) : Ct Tryd.prog 59 #[ptr b] [Rd b (.slice p 0 cap) pl] (FailsV (.int .u8 0) 3 pl [Rd b (.slice p 0 cap) pl]) := by
  refine fn_retD (vs := [_]) Tryd.func59 rfl Tryd.ntmps59 (by simp) ?_
  repeat (first | (first | refine J_region ?_ | refine JL_nil ?_ | refine J_seq ?_) | (first | ((first | refine JL_step rfl ?_); first | refine JO_defer rfl ?_ | refine JO_callF rfl (cut_short b p 0 cap pl 1 (by omega)) rfl (fun q => ?_) | refine JO_move rfl rfl ?_ | refine JO_assign rfl rfl ?_ | refine JO_alloc1 (by rfl) rfl (fun r => ?_))))
  exact leaves_p _ q (res_tc rfl rfl rfl rfl) ⟨_, Ent.sel, q, rfl, rfl⟩
theorem ent_cut {p : Option Addr} {n m cap c : Nat} {bs : List UInt8} {L M : List HP} (hm : m ≤ n) [Tk (Vw 1 (.slice p n cap) n (by8 bs)) L M] : Ent L (Vw 1 (.slice p m c) m (by8 (bs.take m)) :: L) :=
  (Ent.dup (Vw 1 (.slice p n cap) n (by8 bs))).trans (Ent.head fun w M hs => hs.conv fun k h => by have := vw_cut (c := c) hm k h; rw [by8_take] at this; exact this)
theorem byte_ok (b : Nat) (p : Option Addr) (cap : Nat) (pl : Int) (x : UInt8) (bs : List UInt8) (hc : bs.length + 1 ≤ cap) (hpl : 0 ≤ pl ∧ pl + 1 ≤ 9223372036854775807) :
    Ct Tryd.prog 59 #[ptr b] [Rd b (.slice p (bs.length + 1) cap) pl, Vw 1 (.slice p (bs.length + 1) cap) (bs.length + 1) (by8 (x :: bs))]
      (RetV (.tuple #[.int .u8 ((x.toNat : Nat) : Int), .nilIface]) [Rd b (.slice (tailP p cap 1) (bs.length + 1 - 1) (cap - 1)) (pl + 1)]) := by
  refine fn_retD (vs := [_]) Tryd.func59 rfl Tryd.ntmps59 (by simp) ?_
  repeat (first | (first | refine J_region ?_ | refine JL_nil ?_ | refine J_seq ?_) | (first | ((first | refine JL_step rfl ?_); first | refine JO_defer rfl ?_ | refine JO_move rfl rfl ?_ | refine JO_assign rfl rfl ?_ | refine JO_alloc1 (by rfl) rfl (fun r => ?_))))
  refine JL_step rfl (JO_callE (vs := [ptr b, .int .i64 ((1 : Nat) : Int)]) rfl (cut_ok b p (bs.length + 1) cap pl 1 (by omega) hc (by omega)) rfl fun q _ => ?_)
  refine JL_heap (ent_cut (p := p) (n := bs.length + 1) (m := 1) (cap := cap) (c := 1) (bs := x :: bs) (by omega)) ?_
  repeat (first | (first | refine J_region ?_) | (first | ((first | refine JL_step rfl ?_); first | refine JO_q (by simp) (JQ_nilCheck rfl) rfl ?_ | refine JO_field0 rfl rfl ?_ | refine JO_load rfl rfl ?_)))
  refine JL_step rfl (JO_indexV1 (j := 0) rfl rfl (by decide) (.int .u8 ((x.toNat : Nat) : Int)) rfl rfl fun b o hl => ?_)
  refine JL_step rfl (JO_loadL rfl hl rfl ?_)
  clear hl
  repeat (first | (first | refine JL_nil ?_ | refine J_ret ?_) | (first | ((first | refine JL_step rfl ?_); first | refine JO_assign rfl rfl ?_ | refine JO_store rfl rfl (by first | rfl | assumption) rfl ?_)))
  exact leaves_r _ (res_tc rfl rfl rfl rfl) ⟨_, Ent.sel, rfl, rfl⟩
theorem take_nil (n : Int) : Ct Tryd.prog 56 #[.pointer none, .int .i64 n] [] (FailsV (.string ⟨#[]⟩) 1 0 []) := by
  refine fn_retD (vs := [_, _]) Tryd.func56 rfl Tryd.ntmps56 (by simp) ?_
  repeat (first | (first | refine J_region ?_ | refine JL_nil ?_ | refine J_seq ?_) | (first | ((first | refine JL_step rfl ?_); first | refine JO_defer rfl ?_ | refine JO_callF rfl (cut_nil n) rfl (fun q => ?_) | refine JO_move rfl rfl ?_ | refine JO_assign rfl rfl ?_ | refine JO_alloc1 (by rfl) rfl (fun r => ?_))))
  exact leaves_p _ q (res_tc rfl rfl rfl rfl) ⟨_, Ent.sel, q, rfl, rfl⟩
theorem take_neg (b : Nat) (v : Value) (pl n : Int) (h : n < 0) : Ct Tryd.prog 56 #[ptr b, .int .i64 n] [Rd b v pl] (FailsV (.string ⟨#[]⟩) 2 pl [Rd b v pl]) := by
  refine fn_retD (vs := [_, _]) Tryd.func56 rfl Tryd.ntmps56 (by simp) ?_
  repeat (first | (first | refine J_region ?_ | refine JL_nil ?_ | refine J_seq ?_) | (first | ((first | refine JL_step rfl ?_); first | refine JO_defer rfl ?_ | refine JO_callF rfl (cut_neg b v pl n h) rfl (fun q => ?_) | refine JO_move rfl rfl ?_ | refine JO_assign rfl rfl ?_ | refine JO_alloc1 (by rfl) rfl (fun r => ?_))))
  exact leaves_p _ q (res_tc rfl rfl rfl rfl) ⟨_, Ent.sel, q, rfl, rfl⟩
theorem take_short (b : Nat) (p : Option Addr) (len cap : Nat) (pl n : Int) (h : (len : Int) < n) : Ct Tryd.prog 56 #[ptr b, .int .i64 n] [Rd b (.slice p len cap) pl] (FailsV (.string ⟨#[]⟩) 3 pl [Rd b (.slice p len cap) pl]) := by
  refine fn_retD (vs := [_, _]) Tryd.func56 rfl Tryd.ntmps56 (by simp) ?_
  repeat (first | (first | refine J_region ?_ | refine JL_nil ?_ | refine J_seq ?_) | (first | ((first | refine JL_step rfl ?_); first | refine JO_defer rfl ?_ | refine JO_callF rfl (cut_short b p len cap pl n h) rfl (fun q => ?_) | refine JO_move rfl rfl ?_ | refine JO_assign rfl rfl ?_ | refine JO_alloc1 (by rfl) rfl (fun r => ?_))))
  exact leaves_p _ q (res_tc rfl rfl rfl rfl) ⟨_, Ent.sel, q, rfl, rfl⟩
theorem part_nil (n : Int) : Ct Tryd.prog 83 #[.pointer none, .int .i64 n] [] (FailsV (.pointer none) 1 0 []) := by
  refine fn_retD (vs := [_, _]) Tryd.func83 rfl Tryd.ntmps83 (by simp) ?_
  repeat (first | (first | refine J_region ?_ | refine JL_nil ?_ | refine J_seq ?_) | (first | ((first | refine JL_step rfl ?_); first | refine JO_defer rfl ?_ | refine JO_callF rfl (cut_nil n) rfl (fun q => ?_) | refine JO_move rfl rfl ?_ | refine JO_assign rfl rfl ?_ | refine JO_alloc1 (by rfl) rfl (fun r => ?_))))
  exact leaves_p _ q (res_tc rfl rfl rfl rfl) ⟨_, Ent.sel, q, rfl, rfl⟩
theorem part_neg (b : Nat) (v : Value) (pl n : Int) (h : n < 0) : Ct Tryd.prog 83 #[ptr b, .int .i64 n] [Rd b v pl] (FailsV (.pointer none) 2 pl [Rd b v pl]) := by
  refine fn_retD (vs := [_, _]) Tryd.func83 rfl Tryd.ntmps83 (by simp) ?_
  repeat (first | (first | refine J_region ?_ | refine JL_nil ?_ | refine J_seq ?_) | (first | ((first | refine JL_step rfl ?_); first | refine JO_defer rfl ?_ | refine JO_callF rfl (cut_neg b v pl n h) rfl (fun q => ?_) | refine JO_move rfl rfl ?_ | refine JO_assign rfl rfl ?_ | refine JO_alloc1 (by rfl) rfl (fun r => ?_))))
  exact leaves_p _ q (res_tc rfl rfl rfl rfl) ⟨_, Ent.sel, q, rfl, rfl⟩
theorem part_short (b : Nat) (p : Option Addr) (len cap : Nat) (pl n : Int) (h : (len : Int) < n) : Ct Tryd.prog 83 #[ptr b, .int .i64 n] [Rd b (.slice p len cap) pl] (FailsV (.pointer none) 3 pl [Rd b (.slice p len cap) pl]) := by
  refine fn_retD (vs := [_, _]) Tryd.func83 rfl Tryd.ntmps83 (by simp) ?_
  repeat (first | (first | refine J_region ?_ | refine JL_nil ?_ | refine J_seq ?_) | (first | ((first | refine JL_step rfl ?_); first | refine JO_defer rfl ?_ | refine JO_callF rfl (cut_short b p len cap pl n h) rfl (fun q => ?_) | refine JO_move rfl rfl ?_ | refine JO_assign rfl rfl ?_ | refine JO_alloc1 (by rfl) rfl (fun r => ?_))))
  exact leaves_p _ q (res_tc rfl rfl rfl rfl) ⟨_, Ent.sel, q, rfl, rfl⟩
theorem take_ok (b : Nat) (p : Option Addr) (cap : Nat) (pl : Int) (n : Nat) (bs : List UInt8) (hn : n ≤ bs.length) (hc : bs.length ≤ cap) (hpl : 0 ≤ pl ∧ pl + n ≤ 9223372036854775807) :
    Ct Tryd.prog 56 #[ptr b, .int .i64 (n : Int)] [Rd b (.slice p bs.length cap) pl, Vw 1 (.slice p bs.length cap) bs.length (by8 bs)]
      (RetV (.tuple #[str (bs.take n), .nilIface]) [Rd b (.slice (tailP p cap n) (bs.length - n) (cap - n)) (pl + n)]) := by
  refine fn_retD (vs := [_, _]) Tryd.func56 rfl Tryd.ntmps56 (by simp) ?_
  repeat (first | (first | refine J_region ?_ | refine JL_nil ?_ | refine J_seq ?_) | (first | ((first | refine JL_step rfl ?_); first | refine JO_defer rfl ?_ | refine JO_move rfl rfl ?_ | refine JO_assign rfl rfl ?_ | refine JO_alloc1 (by rfl) rfl (fun r => ?_))))
  refine JL_step rfl (JO_callE (vs := [ptr b, .int .i64 (n : Int)]) rfl (cut_ok b p bs.length cap pl n hn hc hpl) rfl fun q _ => ?_)
  refine JL_heap (ent_cut (p := p) (n := bs.length) (m := n) (cap := cap) (c := n) (bs := bs) hn) ?_
  repeat (first | (first | refine JL_nil ?_ | refine J_ret ?_) | (first | ((first | refine JL_step rfl ?_); first | refine JO_q (by simp) (JQ_nilCheck rfl) rfl ?_ | refine JO_q (by simp) (JQ_str (bs := bs.take n) (n := n) (cap := n) (p := p) rfl (by rw [List.length_take]; omega)) rfl ?_ | refine JO_assign rfl rfl ?_ | refine JO_field0 rfl rfl ?_ | refine JO_load rfl rfl ?_ | refine JO_store rfl rfl (by first | rfl | assumption) rfl ?_)))
  exact leaves_r _ (res_tc rfl rfl rfl rfl) ⟨_, Ent.sel, rfl, rfl⟩
theorem part_ok (b : Nat) (p : Option Addr) (len cap : Nat) (pl : Int) (n : Nat) (hn : n ≤ len) (hc : len ≤ cap) (hpl : 0 ≤ pl ∧ pl + n ≤ 9223372036854775807) :
    Ct Tryd.prog 83 #[ptr b, .int .i64 (n : Int)] [Rd b (.slice p len cap) pl]
      (RetE (fun _ : Nat => True) (fun q => .tuple #[ptr q, .nilIface]) (fun q => [Rd b (.slice (tailP p cap n) (len - n) (cap - n)) (pl + n), Rd q (.slice p n n) pl])) := by
  refine fn_retD (vs := [_, _]) Tryd.func83 rfl Tryd.ntmps83 (by simp) ?_
  repeat (first | (first | refine J_region ?_ | refine JL_nil ?_ | refine J_seq ?_) | (first | ((first | refine JL_step rfl ?_); first | refine JO_defer rfl ?_ | refine JO_move rfl rfl ?_ | refine JO_assign rfl rfl ?_ | refine JO_alloc1 (by rfl) rfl (fun r => ?_))))
  refine JL_step rfl (JO_callE (vs := [ptr b, .int .i64 (n : Int)]) rfl (cut_ok b p len cap pl n hn hc hpl) rfl fun q _ => ?_)
  repeat (first | (first | refine JL_nil ?_ | refine J_ret ?_) | (first | ((first | refine JL_step rfl ?_); first | refine JO_assign rfl rfl ?_ | refine JO_store rfl rfl (by first | rfl | assumption) rfl ?_)))
  exact leaves_r _ (res_tc rfl rfl rfl rfl) ⟨_, Ent.sel, q, trivial, rfl, rfl⟩
def FailsE (code at_ : Int) (L0 : List HP) : Ending → List HP → Prop := fun e L => ∃ q : Nat, e = .returned (faultI q) ∧ L = Ft q code at_ :: L0
theorem end_nil : Ct Tryd.prog 43 #[.pointer none] [] (FailsE 1 0 []) := by
  refine fn_retD (vs := [_]) Tryd.func43 rfl Tryd.ntmps43 (by simp) ?_
  repeat (first | (first | refine J_region ?_ | refine JL_nil ?_ | refine J_seq ?_) | (first | ((first | refine JL_step rfl ?_); first | refine JO_defer rfl ?_ | refine JO_q (by simp) (JQ_neP rfl) rfl ?_ | refine JO_callF rfl (must_n 1) rfl (fun q => ?_) | refine JO_move rfl rfl ?_ | refine JO_alloc1 (by rfl) rfl (fun r => ?_))))
  exact leaves_p _ q (res_cell1 rfl rfl rfl) ⟨_, Ent.sel, q, rfl, rfl⟩
theorem end_long (b : Nat) (p : Option Addr) (len cap : Nat) (pl : Int) (h : 0 < len) : Ct Tryd.prog 43 #[ptr b] [Rd b (.slice p len cap) pl] (FailsE 4 pl [Rd b (.slice p len cap) pl]) := by
  refine fn_retD (vs := [_]) Tryd.func43 rfl Tryd.ntmps43 (by simp) ?_
  repeat (first | (first | refine J_region ?_ | refine JL_nil ?_ | refine J_seq ?_) | (first | ((first | refine JL_step rfl ?_); first | refine JO_defer rfl ?_ | refine JO_q (by simp) (JQ_neP rfl) rfl ?_ | refine JO_q (by simp) (JQ_nilCheck rfl) rfl ?_ | refine JO_callF rfl (must_fd b (.slice p len cap) pl 4 ((len : Int) = 0) (by omega)) rfl (fun q => ?_) | refine JO_move rfl rfl ?_ | refine JO_len rfl rfl ?_ | refine JO_field0 rfl rfl ?_ | refine JO_load rfl rfl ?_ | refine JO_eqI rfl rfl rfl ?_ | refine JO_alloc1 (by rfl) rfl (fun r => ?_) | refine JO_callVP rfl (must_t (ptr b) 1) rfl ?_)))
  exact leaves_p _ q (res_cell1 rfl rfl rfl) ⟨_, Ent.sel, q, rfl, rfl⟩
theorem end_ok (b : Nat) (p : Option Addr) (cap : Nat) (pl : Int) : Ct Tryd.prog 43 #[ptr b] [Rd b (.slice p 0 cap) pl] (RetV .nilIface [Rd b (.slice p 0 cap) pl]) := by
  refine fn_retD (vs := [_]) Tryd.func43 rfl Tryd.ntmps43 (by simp) ?_
  repeat (first | (first | refine J_region ?_ | refine JL_nil ?_ | refine J_seq ?_ | refine J_ret ?_) | (first | ((first | refine JL_step rfl ?_); first | refine JO_defer rfl ?_ | refine JO_q (by simp) (JQ_neP rfl) rfl ?_ | refine JO_q (by simp) (JQ_nilCheck rfl) rfl ?_ | refine JO_move rfl rfl ?_ | refine JO_len rfl rfl ?_ | refine JO_field0 rfl rfl ?_ | refine JO_load rfl rfl ?_ | refine JO_eqI rfl rfl rfl ?_ | refine JO_alloc1 (by rfl) rfl (fun r => ?_) | refine JO_store rfl rfl (by first | rfl | assumption) rfl ?_ | refine JO_callVP rfl (must_t (ptr b) 1) rfl ?_ | refine JO_callVP rfl (must_d (ptr b) 4 (((0 : Nat) : Int) = 0) rfl) rfl ?_)))
  exact leaves_r _ (res_cell1 rfl rfl rfl) ⟨_, Ent.sel, rfl, rfl⟩
end Go.Proofs.YtfelcdbhlahehaaDoor

/- Calls of entries without a body; calls through interfaces. -/
namespace Go.Sp
open Go.RowKit
section
variable {P : Program} {N : Nat} {rd : Option Nat} {E : Env} {D : List Deferred} {L : List HP} {Q : Post} {next : Env → List Deferred → List HP → Prop}
variable {d : Option Nat} {ty : TypeId} {pos : String} {after : Array Edge} {g : Option (Nat × Bool)}
theorem evs_map {args : Array Operand} {vs : List Value} {a : Act} (hr : Rep N E D a) (hx : evs E args.toList = some vs) : args.map a.eval = vs.toArray := by
  rw [← hr.evals hx]; apply Array.ext'; simp
theorem exec_fn {f : FuncId} {args : Array Operand} {ts : Array TypeId} {vs : List Value} {a : Act} (hr : Rep N E D a) (hx : evs E args.toList = some vs) (w : World) :
    (execOp a.eval ⟨d, .call ⟨.value (.func f), args, ts⟩, ty, pos, after, g⟩).run P w = (callFunc f vs.toArray).run P w := by
  simp [execOp, resolve, evs_map hr hx, Act.eval, Deferred.ofValue, invoke]
theorem exec_inv {x : Operand} {name : String} {args : Array Operand} {ts : Array TypeId} {vs : List Value} {a : Act} {t : TypeId} {v r : Value} {f : FuncId} (hr : Rep N E D a) (hx : ev E x = some (.iface t v)) (ha : evs E args.toList = some vs)
    (hm : ∀ w, (Go.method (P.types.size + Made.depth) t v name).run P w = .ok (f, r) w) (w : World) :
    (execOp a.eval ⟨d, .call ⟨.invoke x name, args, ts⟩, ty, pos, after, g⟩).run P w = (callFunc f (r :: vs).toArray).run P w := by
  have h1 : (#[Value.iface t v] ++ vs.toArray).extract 1 (#[Value.iface t v] ++ vs.toArray).size = vs.toArray := by
    apply Array.ext'
    simp
  have h2 : (#[Value.iface t v] ++ vs.toArray)[0]? = some (Value.iface t v) := by simp
  have h0 : (execOp a.eval ⟨d, .call ⟨.invoke x name, args, ts⟩, ty, pos, after, g⟩) = (do let e ← (pure { target := .fn (.method name) #[], args := #[a.eval x] ++ args.map a.eval } : Sem Deferred); invoke e.target e.args) := rfl
  rw [h0, evs_map hr ha, hr.eval hx]
  simp only [Sem.run_bind, Sem.run_pure, Result.andThen_ok, invoke, h2, h1]
  unfold callMethod
  have h3 : ∀ (k : Program → Sem Next), Sem.run P ((program : Sem Program) >>= k) w = Sem.run P (k P) w := fun k => rfl
  rw [h3]
  simp [hm]
theorem JQ_ext {f : FuncId} {args : Array Operand} {ts : Array TypeId} {vs : List Value} {v : Value} (hx : evs E args.toList = some vs) (h : ∀ (F : HP) (w : World), Sat w (F :: L) → (callFunc f vs.toArray).run P w = .ok (.value v) w) :
    JQ P N ⟨d, .call ⟨.value (.func f), args, ts⟩, ty, pos, after, g⟩ E D L v := fun F a hr w hs => by rw [exec_fn hr hx]; exact h F w hs
theorem JQ_inv {x : Operand} {name : String} {args : Array Operand} {ts : Array TypeId} {vs : List Value} {t : TypeId} {v r u : Value} {f : FuncId} (hx : ev E x = some (.iface t v)) (ha : evs E args.toList = some vs)
    (hm : ∀ w, (Go.method (P.types.size + Made.depth) t v name).run P w = .ok (f, r) w) (h : ∀ (F : HP) (w : World), Sat w (F :: L) → (callFunc f (r :: vs).toArray).run P w = .ok (.value u) w) :
    JQ P N ⟨d, .call ⟨.invoke x name, args, ts⟩, ty, pos, after, g⟩ E D L u := fun F a hr w hs => by rw [exec_inv hr hx ha hm]; exact h F w hs
/-- An entry that lays one object. -/
theorem JO_extA {f : FuncId} {args : Array Operand} {ts : Array TypeId} {vs : List Value} {v : Nat → Value} {o : Obj} (hx : evs E args.toList = some vs) (hr : ∀ w, (callFunc f vs.toArray).run P w = .ok (.value (v w.heap.size)) (w.alloc o)) (hd : dok N d = true)
    (h : ∀ b, next (put E d (v b)) D (pt b o :: L)) : JO P N rd ⟨d, .call ⟨.value (.func f), args, ts⟩, ty, pos, after, g⟩ E D L next Q :=
  JO_value (fun c => by simp) hd fun F a w hrep hs => ⟨v w.heap.size, w.alloc o, pt w.heap.size o :: L, by rw [exec_fn hrep hx, hr], (hs.new o).swap, h _⟩
/-- A method that is a function with a body. -/
theorem JO_invE {x : Operand} {name : String} {args : Array Operand} {ts : Array TypeId} {vs : List Value} {t : TypeId} {v r : Value} {f : FuncId} [hf : CF P f] {R : Ending → List HP → Prop} (hx : ev E x = some (.iface t v)) (ha : evs E args.toList = some vs)
    (hm : ∀ w, (Go.method (P.types.size + Made.depth) t v name).run P w = .ok (f, r) w) (hc : Ct P f (r :: vs).toArray L R) (hd : dok N d = true)
    (hv : ∀ u L', R (.returned u) L' → next (put E d u) D L') (hp : ∀ ch L', R (.panicked ch) L' → Q (.panic ch) E D L') : JO P N rd ⟨d, .call ⟨.invoke x name, args, ts⟩, ty, pos, after, g⟩ E D L next Q :=
  JO_enter (fun c => by simp) hd (fun a w hr => by rw [exec_inv hr hx ha hm]; exact hf.h _ w) hc hv hp
theorem JO_invV {x : Operand} {name : String} {args : Array Operand} {ts : Array TypeId} {vs : List Value} {t : TypeId} {v r u : Value} {f : FuncId} [hf : CF P f] {L0 K M L1 : List HP} (hx : ev E x = some (.iface t v)) (ha : evs E args.toList = some vs)
    (hm : ∀ w, (Go.method (P.types.size + Made.depth) t v name).run P w = .ok (f, r) w) (hc : Ct P f (r :: vs).toArray K (RetV u L0)) [hs : Sel K L M] [hap : AppH L0 M L1] (hd : dok N d = true)
    (h : next (put E d u) D L1) : JO P N rd ⟨d, .call ⟨.invoke x name, args, ts⟩, ty, pos, after, g⟩ E D L next Q :=
  JO_invE hx ha hm hc.use hd (fun _ _ ⟨_, ⟨he, hL⟩, hL'⟩ => by cases he; rw [hL', hL, hap.h]; exact h) (fun _ _ ⟨_, ⟨he, _⟩, _⟩ => by cases he)
end
end Go.Sp

/- The text of an owned row of bytes. -/
namespace Go.Sp
open Go.RowKit
section
variable {P : Program} {N : Nat} {E : Env} {D : List Deferred} {L M : List HP}
variable {d : Option Nat} {ty : TypeId} {pos : String} {after : Array Edge} {g : Option (Nat × Bool)}
theorem JQ_strO {src dst e : TypeId} [TU P src (.slice e)] [TU P e (.int .u8)] [TU P dst .string] {x : Operand} {bs : List UInt8} {v : Value} {e' sz n : Nat} {cs : List Value} (hx : ev E x = some v) [ho : TkO v L e' sz n cs M] (he : sz = 1) (hn : n = bs.length) (hc : cs = by8 bs) :
    JQ P N ⟨d, .convert src dst x, ty, pos, after, g⟩ E D L (str bs) := fun F a hr w hs => by
  subst he; subst hn; subst hc
  have hs1 : Sat w (OwnS e' 1 v bs.length (by8 bs) :: F :: M) := (hs.perm (ho.h.cons F)).swap
  have hrun : (convert src dst v).run P w = .ok (.string ⟨bs.toArray⟩) w := by
    obtain ⟨_, ⟨rfl, h0, _⟩ | ⟨b, sp, cap, rfl, _, _, _, h⟩⟩ := hs1.own_cases
    · have hb : bs = [] := List.eq_nil_of_length_eq_zero h0
      subst hb
      exact run_convert_bytes_nil (P := P) w src e TU.h TU.h 0 0 dst TU.h
    · refine run_convert_bytes_back w src dst e ⟨b, 0, none⟩ cap bs TU.h TU.h TU.h fun j hj => ?_
      rw [addr_add, Nat.zero_add]
      refine cell_of h.pt_heap ?_
      rw [List.getElem?_append_left (by rw [length_by8]; exact hj)]
      exact by8_get (List.getElem?_eq_getElem hj)
  simp [execOp, hr.eval hx, hrun]
end
end Go.Sp

/- A text's bytes, put behind an owned row. -/
namespace Go.Sp
open Go.RowKit Go.Lib
theorem strCells_by8 (bs : List UInt8) : strCells ⟨bs.toArray⟩ = by8 bs := by
  simp [strCells, by8]
theorem sat_appendS {P : Program} {w : World} {L : List HP} {t u e ty : Nat} (ht : P.underlying t = some (.slice e)) (hu : P.underlying u = some .string) [TI P e (.int .u8 0) 1 1] {v : Value} {n : Nat} {cs : List Value} (bs : List UInt8)
    (hs : Sat w (OwnS e 1 v n cs :: L)) (hb : n + bs.length ≤ 140737488355328) :
    ∃ v' w', (Builtin.append_ #[t, u] ty #[v, str bs]).run P w = .ok v' w' ∧ Sat w' (OwnS e 1 v' (n + bs.length) (cs ++ by8 bs) :: L) := by
  obtain ⟨i, hi, hz, hsize, hbytes⟩ := TI.h (P := P) (t := e) (z := .int .u8 0) (n := 1) (b := 1)
  have hml : n + bs.length ≤ maxLen := by simp [maxLen]; omega
  have hsz : (⟨bs.toArray⟩ : ByteArray).size = bs.length := size_str bs
  obtain ⟨h0, hcase⟩ := hs.own_cases
  have grown : ∀ old, Sat w L → Sat (w.drew.alloc (.cells (cs.toArray ++ (by8 bs).toArray ++ Builtin.zeroCells (Value.int .u8 0).cells (grownCap w (n + bs.length) old e - (n + bs.length))) e))
      (OwnS e 1 (.slice (some ⟨w.heap.size, 0, none⟩) (n + bs.length) (grownCap w (n + bs.length) old e)) (n + bs.length) (cs ++ by8 bs) :: L) := fun old hs' => by
    have hge := grownCap_ge w (n + bs.length) old e
    have hmx := grownCap_le_maxLen w (n + bs.length) old e hml
    have hnew := (hs'.world (w' := w.drew) rfl).new (.cells (cs ++ by8 bs ++ (Builtin.zeroCells (Value.int .u8 0).cells (grownCap w (n + bs.length) old e - (n + bs.length))).toList).toArray e)
    have hsz2 : w.drew.heap.size = w.heap.size := rfl
    rw [hsz2] at hnew
    have hcells : (cs ++ by8 bs ++ (Builtin.zeroCells (Value.int .u8 0).cells (grownCap w (n + bs.length) old e - (n + bs.length))).toList).toArray = cs.toArray ++ (by8 bs).toArray ++ Builtin.zeroCells (Value.int .u8 0).cells (grownCap w (n + bs.length) old e - (n + bs.length)) := by apply Array.ext'; simp
    have h3 : (cs ++ by8 bs).length + (Builtin.zeroCells (Value.int .u8 0).cells (grownCap w (n + bs.length) old e - (n + bs.length))).toList.length = grownCap w (n + bs.length) old e * 1 := by
      rw [length_cells_pos (sz := 1) rfl, List.length_append, h0, length_by8]; omega
    have := Sat.own_block (n := n + bs.length) (sz := 1) (cap := grownCap w (n + bs.length) old e) hnew (by simp [h0, length_by8]) hge hmx h3
    rw [hcells] at this
    exact this
  rcases hcase with ⟨rfl, rfl, hs'⟩ | ⟨b, sp, cap, rfl, hle, hcm, hlen, hs'⟩
  · have hcs : cs = [] := by simpa using h0
    subst hcs
    by_cases hm : bs = []
    · subst hm
      refine ⟨.slice none 0 0, w, ?_, by simpa [by8] using hs⟩
      simp [Builtin.append_, run_underlying' ht, run_underlying' hu, sizeOf, typeInfo, hi, Builtin.lenOf, Builtin.firstCells, hsz]
    · have hpos : 0 < bs.length := List.length_pos_iff.2 hm
      have hrun := run_append_nil_string (P := P) w t u ty e i (.int .u8 0) ht hu hi hz ⟨bs.toArray⟩ (by rw [hsz]; exact hpos) (by rw [hsz]; omega) (by rw [hsz, hbytes]; omega)
      rw [hsz] at hrun
      have hg := grown 0 hs'
      rw [Nat.zero_add] at hg ⊢
      refine ⟨_, _, hrun, ?_⟩
      have e1 : (⟨bs.toArray⟩ : ByteArray).data.map (fun b => Value.int .u8 b.toNat) = (by8 bs).toArray := by apply Array.ext'; simp [by8]
      rw [e1]
      simpa using hg
  · by_cases hfit : n + bs.length ≤ cap
    · have hroom := run_append_room_string (P := P) w t u ty e i ht hu hi hsize b n cap (cs ++ sp).toArray hs'.pt_heap ⟨bs.toArray⟩ (by rw [hsz]; exact hfit) (by
        rw [hsz]; simp only [List.size_toArray, List.length_append]; omega)
      refine ⟨_, _, hroom, ?_⟩
      rw [hsz, strCells_by8]
      have e1 : (cs ++ sp).take n = cs := by rw [← Nat.mul_one n, ← h0]; simp
      have e2 : (cs ++ sp).drop (n + bs.length) = sp.drop bs.length := by rw [← Nat.mul_one n, ← h0]; simp
      rw [e1, e2]
      have hb1 := hs'.pt_heap
      have hs3 : Sat (w.setRow b (cs ++ by8 bs ++ sp.drop bs.length).toArray) (pt b (.cells (cs ++ by8 bs ++ sp.drop bs.length).toArray e (0, 0)) :: L) := by
        refine hs'.grown rfl rfl rfl (fun k hk hne => ?_) ?_
        · simp [World.setRow, Array.getElem?_modify, Ne.symm hne]
        · simp [World.setRow, Array.getElem?_modify, hb1]
      refine Sat.own_block hs3 ?_ hfit hcm ?_
      · simp [h0, length_by8]
      · simp only [List.length_append, List.length_drop, length_by8]
        omega
    · have hgrow := run_append_grow_string (P := P) w t u ty e i (.int .u8 0) ht hu hi hz ⟨b, 0, none⟩ n cap cs (by rw [hsize]; exact h0) (fun j x hj => by
        rw [addr_add, Nat.zero_add]
        exact cell_of hs'.pt_heap (by rw [List.getElem?_append_left (List.getElem?_eq_some_iff.1 hj).1]; exact hj)) ⟨bs.toArray⟩ (by rw [hsz]; omega) (by rw [hsz]; omega)
        (by rw [hsz]; exact growslice_fits (by omega) (by rw [hbytes]; omega))
      rw [hsz, strCells_by8] at hgrow
      exact ⟨_, _, hgrow, grown cap hs'.tail⟩
section
variable {P : Program} {N : Nat} {rd : Option Nat} {E : Env} {D : List Deferred} {L M : List HP} {Q : Post} {next : Env → List Deferred → List HP → Prop}
variable {d : Option Nat} {ty : TypeId} {pos : String} {after : Array Edge} {g : Option (Nat × Bool)}
theorem JO_appendS {x y : Operand} {t u e n : Nat} [TU P t (.slice e)] [TU P u .string] [TI P e (.int .u8 0) 1 1] {v : Value} {cs : List Value} (bs : List UInt8) (hx : ev E x = some v) (hy : ev E y = some (str bs)) [ho : TkO v L e 1 n cs M] (hb : n + bs.length ≤ 140737488355328)
    (hd : dok N d = true) (h : ∀ v', v'.oneCell' = true → next (put E d v') D (OwnS e 1 v' (n + bs.length) (cs ++ by8 bs) :: M)) : JO P N rd ⟨d, .call ⟨.builtin .append, #[x, y], #[t, u]⟩, ty, pos, after, g⟩ E D L next Q :=
  JO_value (fun c => by simp) hd fun F a w hr hs => by
    have hs1 : Sat w (OwnS e 1 v n cs :: F :: M) := (hs.perm (ho.h.cons F)).swap
    obtain ⟨v', w', h2, h3⟩ := sat_appendS (P := P) (t := t) (u := u) (ty := ty) TU.h TU.h bs hs1 hb
    exact ⟨v', w', _, by simp [execOp, resolve, invoke, builtin, hr.eval hx, hr.eval hy, h2], h3.swap, h v' (h3.out fun _ hk => own_one hk)⟩
end
end Go.Sp

/- Layer 1: octets: a new reader; the writer. -/
namespace Go.Proofs.YtfelcdbhlahehaaDoor
open Go Go.Sp
attribute [local irreducible] J JL JO Ct JG JM JQ JQ0 JS CtD LeavesQ
theorem newreader_c (bs : List UInt8) (hn : bs.length ≤ maxLen) : Ct Tryd.prog 23 #[str bs] [] (RetE (fun x : Nat × Nat × Nat => bs.length ≤ x.2.2) (fun x => ptr x.1) (fun x => [Rd x.1 (.slice (some ⟨x.2.1, 0, none⟩) bs.length x.2.2) 0, Vw 1 (.slice (some ⟨x.2.1, 0, none⟩) bs.length x.2.2) bs.length (by8 bs)])) := by
  refine fn_ret (vs := [_]) Tryd.func23 rfl Tryd.ntmps23 (by simp) ?_
  repeat (first | (first | refine J_region ?_ | refine JL_nil ?_ | refine J_seq ?_) | (first | ((first | refine JL_step rfl ?_); first | refine JO_move rfl rfl ?_ | refine JO_assign rfl rfl ?_)))
  refine JL_step rfl (JO_bytes (bs := bs) rfl hn rfl fun b cap hc => ?_)
  refine JL_step rfl (JO_build (cs := [.slice (some ⟨b, 0, none⟩) bs.length cap, .int .i64 0]) rfl rfl rfl ?_)
  repeat (first | (first | refine JL_nil ?_ | refine J_ret ?_) | (first | ((first | refine JL_step rfl ?_); first | refine JO_assign rfl rfl ?_ | refine JO_boxA rfl rfl (fun r => ?_))))
  exact ret_one rfl rfl (r, b, cap) hc rfl Ent.sel
/-- A writer's block. -/
abbrev Wr (b : Nat) (v : Value) : HP := pt b (.cells #[v] 115 (0, 0))
theorem newwriter_c : Ct Tryd.prog 38 #[] [] (RetE (fun _ : Nat => True) ptr (fun b => [Wr b (.slice none 0 0), OwnS 5 1 (.slice none 0 0) 0 []])) := by
  refine fn_ret (vs := []) Tryd.func38 rfl Tryd.ntmps38 (by simp) ?_
  repeat (first | (first | refine J_region ?_ | refine JL_nil ?_ | refine J_seq ?_ | refine J_ret ?_) | (first | ((first | refine JL_step rfl ?_); first | refine JO_build (cs := [.slice none 0 0]) rfl rfl rfl ?_ | refine JO_assign rfl rfl ?_ | refine JO_boxA rfl rfl (fun r => ?_))))
  exact ret_one rfl rfl r trivial rfl ((Ent.cons (A := OwnS 5 1 (.slice none 0 0) 0 []) fun w M h => h.own_nil).trans Ent.sel)
theorem wlen_nil : Ct Tryd.prog 39 #[.pointer none] [] (RetV (.int .i64 0) []) := by
  refine fn_ret (vs := [_]) Tryd.func39 rfl Tryd.ntmps39 (by simp) ?_
  repeat (first | (first | refine J_region ?_ | refine JL_nil ?_ | refine J_seq ?_ | refine J_condT rfl ?_ | refine J_ret ?_) | (first | ((first | refine JL_step rfl ?_); first | refine JO_q (by simp) (JQ_eqP rfl) rfl ?_ | refine JO_move rfl rfl ?_ | refine JO_assign rfl rfl ?_)))
  exact ret_oneV rfl rfl .nil
theorem wtext_nil : Ct Tryd.prog 41 #[.pointer none] [] (RetV (.string ⟨#[]⟩) []) := by
  refine fn_ret (vs := [_]) Tryd.func41 rfl Tryd.ntmps41 (by simp) ?_
  repeat (first | (first | refine J_region ?_ | refine JL_nil ?_ | refine J_seq ?_ | refine J_condT rfl ?_ | refine J_ret ?_) | (first | ((first | refine JL_step rfl ?_); first | refine JO_q (by simp) (JQ_eqP rfl) rfl ?_ | refine JO_move rfl rfl ?_ | refine JO_assign rfl rfl ?_)))
  exact ret_oneV rfl rfl .nil
theorem wbyte_nil (x : Value) : Ct Tryd.prog 52 #[.pointer none, x] [] (RetV (.tuple #[]) []) := by
  refine fn_ret (vs := [_, _]) Tryd.func52 rfl Tryd.ntmps52 (by simp) ?_
  repeat (first | (first | refine J_region ?_ | refine JL_nil ?_ | refine J_seq ?_ | refine J_skip ?_ | refine J_condF rfl ?_) | (first | ((first | refine JL_step rfl ?_); first | refine JO_q (by simp) (JQ_neP rfl) rfl ?_ | refine JO_move rfl rfl ?_)))
  exact ⟨rfl, _, res_none rfl, _, .nil, rfl, rfl⟩
theorem wput_nil (x : Value) : Ct Tryd.prog 45 #[.pointer none, x] [] (RetV (.tuple #[]) []) := by
  refine fn_ret (vs := [_, _]) Tryd.func45 rfl Tryd.ntmps45 (by simp) ?_
  repeat (first | (first | refine J_region ?_ | refine JL_nil ?_ | refine J_seq ?_ | refine J_skip ?_ | refine J_condF rfl ?_) | (first | ((first | refine JL_step rfl ?_); first | refine JO_q (by simp) (JQ_neP rfl) rfl ?_ | refine JO_move rfl rfl ?_)))
  exact ⟨rfl, _, res_none rfl, _, .nil, rfl, rfl⟩
theorem wbyte_c (b : Nat) (v : Value) (bs : List UInt8) (x : UInt8) (hb : bs.length ≤ 1000000) : Ct Tryd.prog 52 #[ptr b, .int .u8 ((x.toNat : Nat) : Int)] [Wr b v, OwnS 5 1 v bs.length (by8 bs)]
    (RetE (fun _ : Value => True) (fun _ => .tuple #[]) (fun v' => [Wr b v', OwnS 5 1 v' (bs.length + 1) (by8 bs ++ [.int .u8 ((x.toNat : Nat) : Int)])])) := by
  refine fn_ret (vs := [_, _]) Tryd.func52 rfl Tryd.ntmps52 (by simp) ?_
  repeat (first | (first | refine J_region ?_ | refine JL_nil ?_ | refine J_seq ?_ | refine J_condT rfl ?_) | (first | ((first | refine JL_step rfl ?_); first | refine JO_q (by simp) (JQ_neP rfl) rfl ?_ | refine JO_q (by simp) (JQ_nilCheck rfl) rfl ?_ | refine JO_move rfl rfl ?_ | refine JO_field0 rfl rfl ?_ | refine JO_load rfl rfl ?_ | refine JO_buildSlice rfl rfl rfl (by decide) rfl (fun r => ?_))))
  refine JL_step rfl (JO_append (sz := 1) (n := bs.length) (m := 1) (news := [.int .u8 ((x.toNat : Nat) : Int)]) rfl rfl rds_block rfl (by decide) rfl (by simp [Value.oneCell']) (by omega) (by decide) rfl fun v' hv' => ?_)
  repeat (first | (first | refine JL_nil ?_) | (first | ((first | refine JL_step rfl ?_); first | refine JO_q (by simp) (JQ_nilCheck rfl) rfl ?_ | refine JO_field0 rfl rfl ?_ | refine JO_store rfl rfl (by first | rfl | assumption) rfl ?_)))
  exact ⟨rfl, _, res_none rfl, _, Ent.sel, v', trivial, rfl, rfl⟩
theorem wlen_c (b : Nat) (p : Option Addr) (n cap : Nat) : Ct Tryd.prog 39 #[ptr b] [Wr b (.slice p n cap)] (RetV (.int .i64 (n : Int)) [Wr b (.slice p n cap)]) := by
  refine fn_ret (vs := [_]) Tryd.func39 rfl Tryd.ntmps39 (by simp) ?_
  repeat (first | (first | refine J_region ?_ | refine JL_nil ?_ | refine J_seq ?_ | refine J_skip ?_ | refine J_condF rfl ?_ | refine J_ret ?_) | (first | ((first | refine JL_step rfl ?_); first | refine JO_q (by simp) (JQ_eqP rfl) rfl ?_ | refine JO_q (by simp) (JQ_nilCheck rfl) rfl ?_ | refine JO_move rfl rfl ?_ | refine JO_assign rfl rfl ?_ | refine JO_len rfl rfl ?_ | refine JO_field0 rfl rfl ?_ | refine JO_load rfl rfl ?_)))
  exact ret_oneV rfl rfl Ent.sel
theorem wtext_c (b : Nat) (v : Value) (bs : List UInt8) : Ct Tryd.prog 41 #[ptr b] [Wr b v, OwnS 5 1 v bs.length (by8 bs)] (RetV (str bs) [Wr b v, OwnS 5 1 v bs.length (by8 bs)]) := by
  refine fn_ret (vs := [_]) Tryd.func41 rfl Tryd.ntmps41 (by simp) ?_
  repeat (first | (first | refine J_region ?_ | refine JL_nil ?_ | refine J_seq ?_ | refine J_skip ?_ | refine J_condF rfl ?_ | refine J_ret ?_) | (first | ((first | refine JL_step rfl ?_); first | refine JO_q (by simp) (JQ_eqP rfl) rfl ?_ | refine JO_q (by simp) (JQ_nilCheck rfl) rfl ?_ | refine JO_q (by simp) (JQ_strO (bs := bs) rfl rfl rfl rfl) rfl ?_ | refine JO_move rfl rfl ?_ | refine JO_assign rfl rfl ?_ | refine JO_field0 rfl rfl ?_ | refine JO_load rfl rfl ?_)))
  exact ret_oneV rfl rfl Ent.sel
theorem wput_c (b : Nat) (v : Value) (bs xs : List UInt8) (hb : bs.length + xs.length ≤ 140737488355328) : Ct Tryd.prog 45 #[ptr b, str xs] [Wr b v, OwnS 5 1 v bs.length (by8 bs)]
    (RetE (fun _ : Value => True) (fun _ => .tuple #[]) (fun v' => [Wr b v', OwnS 5 1 v' (bs.length + xs.length) (by8 bs ++ by8 xs)])) := by
  refine fn_ret (vs := [_, _]) Tryd.func45 rfl Tryd.ntmps45 (by simp) ?_
  repeat (first | (first | refine J_region ?_ | refine JL_nil ?_ | refine J_seq ?_ | refine J_condT rfl ?_) | (first | ((first | refine JL_step rfl ?_); first | refine JO_q (by simp) (JQ_neP rfl) rfl ?_ | refine JO_q (by simp) (JQ_nilCheck rfl) rfl ?_ | refine JO_move rfl rfl ?_ | refine JO_field0 rfl rfl ?_ | refine JO_load rfl rfl ?_)))
  refine JL_step rfl (JO_appendS (n := bs.length) xs rfl rfl hb rfl fun v' hv' => ?_)
  repeat (first | (first | refine JL_nil ?_) | (first | ((first | refine JL_step rfl ?_); first | refine JO_q (by simp) (JQ_nilCheck rfl) rfl ?_ | refine JO_field0 rfl rfl ?_ | refine JO_store rfl rfl (by first | rfl | assumption) rfl ?_)))
  exact ⟨rfl, _, res_none rfl, _, Ent.sel, v', trivial, rfl, rfl⟩
end Go.Proofs.YtfelcdbhlahehaaDoor

/- Layer 1: octets: a reader by its bytes alone. -/
namespace Go.Proofs.YtfelcdbhlahehaaDoor
open Go Go.Sp
/-- A reader of the bytes bs, at the place pl. -/
def RdB (b : Nat) (bs : List UInt8) (pl : Int) : HP := fun h => ∃ x : Option Addr × Nat, bs.length ≤ x.2 ∧ Star [Rd b (.slice x.1 bs.length x.2) pl, Vw 1 (.slice x.1 bs.length x.2) bs.length (by8 bs)] h
theorem rdb_open {b : Nat} {bs : List UInt8} {pl : Int} {w : World} {L : List HP} (h : Sat w (RdB b bs pl :: L)) : ∃ p cap, bs.length ≤ cap ∧ Sat w (Rd b (.slice p bs.length cap) pl :: Vw 1 (.slice p bs.length cap) bs.length (by8 bs) :: L) := by
  obtain ⟨⟨p, cap⟩, h1⟩ := h.outE (α := Option Addr × Nat) (B := fun x k => bs.length ≤ x.2 ∧ Star [Rd b (.slice x.1 bs.length x.2) pl, Vw 1 (.slice x.1 bs.length x.2) bs.length (by8 bs)] k) (fun k ⟨x, hx⟩ => ⟨x, hx⟩)
  have h2 : bs.length ≤ cap := h1.out fun k hk => hk.1
  have h3 := h1.conv fun k hk => hk.2
  exact ⟨p, cap, h2, (Sat.fold (L1 := [Rd b (.slice p bs.length cap) pl, Vw 1 (.slice p bs.length cap) bs.length (by8 bs)])).2 h3⟩
theorem rdb_close {b : Nat} {bs : List UInt8} {pl : Int} {w : World} {L : List HP} {p : Option Addr} {cap : Nat} (hc : bs.length ≤ cap) (h : Sat w (Rd b (.slice p bs.length cap) pl :: Vw 1 (.slice p bs.length cap) bs.length (by8 bs) :: L)) : Sat w (RdB b bs pl :: L) :=
  ((Sat.fold (L1 := [Rd b (.slice p bs.length cap) pl, Vw 1 (.slice p bs.length cap) bs.length (by8 bs)])).1 h).conv fun _ hk => ⟨(p, cap), hc, hk⟩
/-- A contract of a reader, by its bytes. -/
theorem ct_rdb {f : FuncId} {args : Array Value} {b : Nat} {bs : List UInt8} {pl : Int} {R : Ending → List HP → Prop}
    (h : ∀ p cap, bs.length ≤ cap → Ct Tryd.prog f args [Rd b (.slice p bs.length cap) pl, Vw 1 (.slice p bs.length cap) bs.length (by8 bs)] R) : Ct Tryd.prog f args [RdB b bs pl] R := fun F w hs => by
  obtain ⟨p, cap, hc, h1⟩ := rdb_open hs.swap
  refine h p cap hc F w (h1.perm ?_)
  exact (List.Perm.cons _ (List.Perm.swap _ _ _)).trans (List.Perm.swap _ _ _)
theorem Ct.post {f : FuncId} {args : Array Value} {L : List HP} {R R' : Ending → List HP → Prop} (h : Ct Tryd.prog f args L R) (hr : ∀ e L', R e L' → ∃ L'', Ent L' L'' ∧ R' e L'') : Ct Tryd.prog f args L R' := fun F w hs =>
  (h F w hs).mono fun _ w' ⟨hne, _, r, s⟩ => let ⟨L'', he, r'⟩ := hr _ _ r; ⟨hne, L'', r', he F w' s⟩
theorem rdb_tail {b : Nat} {bs : List UInt8} {pl : Int} {p : Option Addr} {cap n : Nat} (hn : n ≤ bs.length) (hc : bs.length ≤ cap) : Ent [Rd b (.slice (tailP p cap n) (bs.length - n) (cap - n)) pl, Vw 1 (.slice p bs.length cap) bs.length (by8 bs)] [RdB b (bs.drop n) pl] := fun F w hs => by
  have e1 : (bs.drop n).length = bs.length - n := List.length_drop
  have h1 : Sat w (Vw 1 (.slice p bs.length cap) bs.length (by8 bs) :: Rd b (.slice (tailP p cap n) (bs.length - n) (cap - n)) pl :: [F]) := hs.perm ((List.Perm.cons _ (List.Perm.swap _ _ _)).trans ((List.Perm.swap _ _ _).trans (List.Perm.cons _ (List.Perm.swap _ _ _))))
  have h2 := h1.conv fun k hk => vw_drop (c := cap - n) hn hc k hk
  rw [by8_drop, ← e1] at h2
  exact (rdb_close (bs := bs.drop n) (by rw [e1]; omega) h2.swap).swap
theorem rdb_same {b : Nat} {bs : List UInt8} {pl : Int} {p : Option Addr} {cap : Nat} (hc : bs.length ≤ cap) : Ent [Rd b (.slice p bs.length cap) pl, Vw 1 (.slice p bs.length cap) bs.length (by8 bs)] [RdB b bs pl] := fun _ _ hs =>
  (rdb_close hc (hs.perm ((List.Perm.swap _ _ _).trans (List.Perm.cons _ (List.Perm.swap _ _ _))))).swap
theorem keepV {b : Nat} {bs : List UInt8} {pl : Int} {p : Option Addr} {cap : Nat} : Ent [Rd b (.slice p bs.length cap) pl, Vw 1 (.slice p bs.length cap) bs.length (by8 bs)] ([Rd b (.slice p bs.length cap) pl, Vw 1 (.slice p bs.length cap) bs.length (by8 bs)] ++ [Vw 1 (.slice p bs.length cap) bs.length (by8 bs)]) :=
  (Ent.dup (Vw 1 (.slice p bs.length cap) bs.length (by8 bs))).trans (Ent.sel (K := [Rd b (.slice p bs.length cap) pl, Vw 1 (.slice p bs.length cap) bs.length (by8 bs), Vw 1 (.slice p bs.length cap) bs.length (by8 bs)]))
theorem take_B (b : Nat) (bs : List UInt8) (pl : Int) (n : Nat) (hn : n ≤ bs.length) (hpl : 0 ≤ pl ∧ pl + n ≤ 9223372036854775807) :
    Ct Tryd.prog 56 #[ptr b, .int .i64 (n : Int)] [RdB b bs pl] (RetV (.tuple #[str (bs.take n), .nilIface]) [RdB b (bs.drop n) (pl + n)]) :=
  ct_rdb fun p cap hc => Ct.post (Ct.heap keepV ((take_ok b p cap pl n bs hn hc hpl).frame [Vw 1 (.slice p bs.length cap) bs.length (by8 bs)])) fun _ _ ⟨_, ⟨he, hL⟩, hL'⟩ => ⟨_, by rw [hL', hL]; exact rdb_tail hn hc, he, rfl⟩
theorem byte_B (b : Nat) (x : UInt8) (bs : List UInt8) (pl : Int) (hpl : 0 ≤ pl ∧ pl + 1 ≤ 9223372036854775807) :
    Ct Tryd.prog 59 #[ptr b] [RdB b (x :: bs) pl] (RetV (.tuple #[.int .u8 ((x.toNat : Nat) : Int), .nilIface]) [RdB b bs (pl + 1)]) :=
  ct_rdb fun p cap hc => Ct.post (Ct.heap keepV ((byte_ok b p cap pl x bs hc hpl).frame [Vw 1 (.slice p (x :: bs).length cap) (x :: bs).length (by8 (x :: bs))])) fun _ _ ⟨_, ⟨he, hL⟩, hL'⟩ => ⟨_, by rw [hL', hL]; exact rdb_tail (bs := x :: bs) (n := 1) (by simp) hc, he, rfl⟩
theorem place_B (b : Nat) (bs : List UInt8) (pl : Int) : Ct Tryd.prog 28 #[ptr b] [RdB b bs pl] (RetV (.int .i64 pl) [RdB b bs pl]) :=
  ct_rdb fun p cap hc => Ct.post ((place_c b (.slice p bs.length cap) pl).frame [Vw 1 (.slice p bs.length cap) bs.length (by8 bs)]) fun _ _ ⟨_, ⟨he, hL⟩, hL'⟩ => ⟨_, by rw [hL', hL]; exact rdb_same hc, he, rfl⟩
theorem left_B (b : Nat) (bs : List UInt8) (pl : Int) : Ct Tryd.prog 44 #[ptr b] [RdB b bs pl] (RetV (.int .i64 (bs.length : Int)) [RdB b bs pl]) :=
  ct_rdb fun p cap hc => Ct.post ((left_c b p bs.length cap pl).frame [Vw 1 (.slice p bs.length cap) bs.length (by8 bs)]) fun _ _ ⟨_, ⟨he, hL⟩, hL'⟩ => ⟨_, by rw [hL', hL]; exact rdb_same hc, he, rfl⟩
theorem take_negB (b : Nat) (bs : List UInt8) (pl n : Int) (h : n < 0) : Ct Tryd.prog 56 #[ptr b, .int .i64 n] [RdB b bs pl] (FailsV (.string ⟨#[]⟩) 2 pl [RdB b bs pl]) :=
  ct_rdb fun p cap hc => Ct.post ((take_neg b (.slice p bs.length cap) pl n h).frame [Vw 1 (.slice p bs.length cap) bs.length (by8 bs)]) fun _ _ ⟨_, ⟨q, he, hL⟩, hL'⟩ => ⟨_, by rw [hL', hL]; exact Ent.keep (rdb_same hc), q, he, rfl⟩
theorem take_shortB (b : Nat) (bs : List UInt8) (pl n : Int) (h : (bs.length : Int) < n) : Ct Tryd.prog 56 #[ptr b, .int .i64 n] [RdB b bs pl] (FailsV (.string ⟨#[]⟩) 3 pl [RdB b bs pl]) :=
  ct_rdb fun p cap hc => Ct.post ((take_short b p bs.length cap pl n h).frame [Vw 1 (.slice p bs.length cap) bs.length (by8 bs)]) fun _ _ ⟨_, ⟨q, he, hL⟩, hL'⟩ => ⟨_, by rw [hL', hL]; exact Ent.keep (rdb_same hc), q, he, rfl⟩
theorem byte_shortB (b : Nat) (pl : Int) : Ct Tryd.prog 59 #[ptr b] [RdB b [] pl] (FailsV (.int .u8 0) 3 pl [RdB b [] pl]) :=
  ct_rdb fun p cap hc => Ct.post ((byte_short b p cap pl).frame [Vw 1 (.slice p ([] : List UInt8).length cap) ([] : List UInt8).length (by8 [])]) fun _ _ ⟨_, ⟨q, he, hL⟩, hL'⟩ => ⟨_, by rw [hL', hL]; exact Ent.keep (rdb_same hc), q, he, rfl⟩
theorem end_longB (b : Nat) (bs : List UInt8) (pl : Int) (h : 0 < bs.length) : Ct Tryd.prog 43 #[ptr b] [RdB b bs pl] (FailsE 4 pl [RdB b bs pl]) :=
  ct_rdb fun p cap hc => Ct.post ((end_long b p bs.length cap pl h).frame [Vw 1 (.slice p bs.length cap) bs.length (by8 bs)]) fun _ _ ⟨_, ⟨q, he, hL⟩, hL'⟩ => ⟨_, by rw [hL', hL]; exact Ent.keep (rdb_same hc), q, he, rfl⟩
theorem end_okB (b : Nat) (pl : Int) : Ct Tryd.prog 43 #[ptr b] [RdB b [] pl] (RetV .nilIface [RdB b [] pl]) :=
  ct_rdb fun p cap hc => Ct.post ((end_ok b p cap pl).frame [Vw 1 (.slice p ([] : List UInt8).length cap) ([] : List UInt8).length (by8 [])]) fun _ _ ⟨_, ⟨he, hL⟩, hL'⟩ => ⟨_, by rw [hL', hL]; exact rdb_same hc, he, rfl⟩
theorem newreader_B (bs : List UInt8) (hn : bs.length ≤ maxLen) : Ct Tryd.prog 23 #[str bs] [] (RetE (fun _ : Nat => True) ptr (fun q => [RdB q bs 0])) :=
  Ct.post (newreader_c bs hn) fun _ _ ⟨x, hx, he, hL⟩ => ⟨_, by rw [hL]; exact rdb_same hx, x.1, trivial, he, rfl⟩
theorem rdb_part {b q : Nat} {bs : List UInt8} {pl pl' : Int} {p : Option Addr} {cap n : Nat} (hn : n ≤ bs.length) (hc : bs.length ≤ cap) :
    Ent [Rd b (.slice (tailP p cap n) (bs.length - n) (cap - n)) pl', Rd q (.slice p n n) pl, Vw 1 (.slice p bs.length cap) bs.length (by8 bs)] [RdB b (bs.drop n) pl', RdB q (bs.take n) pl] := fun F w hs => by
  have e1 : (bs.take n).length = n := by rw [List.length_take]; omega
  have h1 : Sat w ([F, Rd q (.slice p n n) pl, Vw 1 (.slice p n n) n (by8 (bs.take n)), Rd b (.slice (tailP p cap n) (bs.length - n) (cap - n)) pl', Vw 1 (.slice p bs.length cap) bs.length (by8 bs)]) :=
    ((ent_cut (p := p) (n := bs.length) (m := n) (cap := cap) (c := n) (bs := bs) hn).trans (Ent.sel (K := [Rd q (.slice p n n) pl, Vw 1 (.slice p n n) n (by8 (bs.take n)), Rd b (.slice (tailP p cap n) (bs.length - n) (cap - n)) pl', Vw 1 (.slice p bs.length cap) bs.length (by8 bs)]))) F w hs
  have h2 := Ent.keep (A := Vw 1 (.slice p n n) n (by8 (bs.take n))) (rdb_tail (b := b) (pl := pl') (p := p) hn hc)
  have h3 := Ent.keep (A := Rd q (.slice p n n) pl) h2 F w h1
  have h4 : Sat w (Rd q (.slice p n n) pl :: Vw 1 (.slice p n n) n (by8 (bs.take n)) :: [F, RdB b (bs.drop n) pl']) := h3.perm ((List.Perm.swap _ _ _).trans (List.Perm.cons _ (List.Perm.swap _ _ _)))
  have h5 : Sat w (RdB q (bs.take n) pl :: [F, RdB b (bs.drop n) pl']) := rdb_close (p := p) (cap := n) (by rw [e1]; exact Nat.le_refl n) (by rw [e1]; exact h4)
  exact h5.perm ((List.Perm.swap _ _ _).trans (List.Perm.cons _ (List.Perm.swap _ _ _)))
theorem part_B (b : Nat) (bs : List UInt8) (pl : Int) (n : Nat) (hn : n ≤ bs.length) (hpl : 0 ≤ pl ∧ pl + n ≤ 9223372036854775807) :
    Ct Tryd.prog 83 #[ptr b, .int .i64 (n : Int)] [RdB b bs pl] (RetE (fun _ : Nat => True) (fun q => .tuple #[ptr q, .nilIface]) (fun q => [RdB b (bs.drop n) (pl + n), RdB q (bs.take n) pl])) :=
  ct_rdb fun p cap hc => Ct.post ((part_ok b p bs.length cap pl n hn hc hpl).frame [Vw 1 (.slice p bs.length cap) bs.length (by8 bs)]) fun _ _ ⟨_, ⟨q, hq, he, hL⟩, hL'⟩ => ⟨_, by rw [hL', hL]; exact rdb_part hn hc, q, hq, he, rfl⟩
theorem part_negB (b : Nat) (bs : List UInt8) (pl n : Int) (h : n < 0) : Ct Tryd.prog 83 #[ptr b, .int .i64 n] [RdB b bs pl] (FailsV (.pointer none) 2 pl [RdB b bs pl]) :=
  ct_rdb fun p cap hc => Ct.post ((part_neg b (.slice p bs.length cap) pl n h).frame [Vw 1 (.slice p bs.length cap) bs.length (by8 bs)]) fun _ _ ⟨_, ⟨q, he, hL⟩, hL'⟩ => ⟨_, by rw [hL', hL]; exact Ent.keep (rdb_same hc), q, he, rfl⟩
theorem part_shortB (b : Nat) (bs : List UInt8) (pl n : Int) (h : (bs.length : Int) < n) : Ct Tryd.prog 83 #[ptr b, .int .i64 n] [RdB b bs pl] (FailsV (.pointer none) 3 pl [RdB b bs pl]) :=
  ct_rdb fun p cap hc => Ct.post ((part_short b p bs.length cap pl n h).frame [Vw 1 (.slice p bs.length cap) bs.length (by8 bs)]) fun _ _ ⟨_, ⟨q, he, hL⟩, hL'⟩ => ⟨_, by rw [hL', hL]; exact Ent.keep (rdb_same hc), q, he, rfl⟩
end Go.Proofs.YtfelcdbhlahehaaDoor

/- Layer 1: the document's reader. -/
namespace Go.Proofs.YtfelcdbhlahehaaDoor
open Go Go.Sp
attribute [local irreducible] J JL JO Ct JG JM JQ JQ0 JS CtD LeavesQ
/-- The document's reader's block. -/
abbrev Dr (b : Nat) (s : List UInt8) (at_ begin_ : Int) : HP := pt b (.cells #[str s, .int .i64 at_, .int .i64 begin_] 54 (0, 0))
abbrev faultV (code at_ : Int) : Value := .agg #[.int .i64 code, .int .i64 at_]
theorem dplace_c (b : Nat) (s : List UInt8) (at_ bg : Int) (h : -9223372036854775808 ≤ bg + at_ ∧ bg + at_ ≤ 9223372036854775807) : Ct Tryd.prog 29 #[ptr b] [Dr b s at_ bg] (RetV (.int .i64 (bg + at_)) [Dr b s at_ bg]) := by
  refine fn_ret (vs := [_]) Tryd.func29 rfl Tryd.ntmps29 (by simp) ?_
  repeat (first | (first | refine J_region ?_ | refine JL_nil ?_ | refine J_seq ?_) | (first | ((first | refine JL_step rfl ?_); first | refine JO_assign rfl rfl ?_)))
  refine J_calm ?_
  refine J_regionG ?_
  repeat (first | refine JG_fin rfl ?_ | refine JG_n rfl rfl rfl (by kernel_rfl) (by kernel_rfl) rfl Ent.sel (by first | exact JQ_nilCheck rfl | exact JQ_move rfl | exact JQ_assign rfl | exact JQ_loadB rfl | exact JQ_field0 rfl | exact JQ_add rfl rfl (by omega)) ?_)
  repeat (first | (first | refine J_ret ?_) | (first | ((first | refine JL_step rfl ?_); first | refine JO_move rfl rfl ?_)))
  exact ret_oneV rfl rfl Ent.sel
theorem dleft_c (b : Nat) (s : List UInt8) (at_ bg : Int) (h : -9223372036854775808 ≤ (s.length : Int) - at_ ∧ (s.length : Int) - at_ ≤ 9223372036854775807) : Ct Tryd.prog 101 #[ptr b] [Dr b s at_ bg] (RetV (.int .i64 ((s.length : Int) - at_)) [Dr b s at_ bg]) := by
  have hs : (((⟨s.toArray⟩ : ByteArray).size : Nat) : Int) = (s.length : Int) := by rw [size_str]
  refine fn_ret (vs := [_]) Tryd.func101 rfl Tryd.ntmps101 (by simp) ?_
  rw [← hs] at h ⊢
  repeat (first | (first | refine J_region ?_ | refine JL_nil ?_ | refine J_seq ?_) | (first | ((first | refine JL_step rfl ?_); first | refine JO_assign rfl rfl ?_)))
  refine J_calm ?_
  refine J_regionG ?_
  repeat (first | refine JG_fin rfl ?_ | refine JG_n rfl rfl rfl (by kernel_rfl) (by kernel_rfl) rfl Ent.sel (by first | exact JQ_nilCheck rfl | exact JQ_lenS rfl | exact JQ_move rfl | exact JQ_assign rfl | exact JQ_loadB rfl | exact JQ_field0 rfl | exact JQ_sub rfl rfl (by omega)) ?_)
  repeat (first | (first | refine J_ret ?_) | (first | ((first | refine JL_step rfl ?_); first | refine JO_move rfl rfl ?_)))
  exact ret_oneV rfl rfl Ent.sel
theorem dfault_c (b : Nat) (s : List UInt8) (at_ bg code : Int) (h : -9223372036854775808 ≤ bg + at_ ∧ bg + at_ ≤ 9223372036854775807) : Ct Tryd.prog 102 #[ptr b, .int .i64 code] [Dr b s at_ bg] (RetV (faultV code (bg + at_)) [Dr b s at_ bg]) := by
  refine fn_ret (vs := [_, _]) Tryd.func102 rfl Tryd.ntmps102 (by simp) ?_
  repeat (first | (first | refine J_region ?_ | refine JL_nil ?_ | refine J_seq ?_ | refine J_ret ?_) | (first | ((first | refine JL_step rfl ?_); first | refine JO_build (cs := [.int .i64 code, .int .i64 (bg + at_)]) rfl rfl rfl ?_ | refine JO_move rfl rfl ?_ | refine JO_allocA rfl (fun r => ?_) | refine JO_storeW rfl rfl (by rfl) (by rfl) (by first | decide | simp [Value.oneCell']) rfl ?_ | refine JO_callV' rfl (dplace_c b s at_ bg h) rfl ?_)))
  exact ⟨rfl, _, res_cellW (n := 2) (cs := [.int .i64 code, .int .i64 (bg + at_)]) rfl rfl rfl, _, Ent.sel, rfl, rfl⟩
/-- What the document's reader hands back: a value and a fault. -/
theorem dtake_neg (b : Nat) (s : List UInt8) (at_ bg n : Int) (h : -9223372036854775808 ≤ bg + at_ ∧ bg + at_ ≤ 9223372036854775807) (hn : n < 0) : Ct Tryd.prog 92 #[ptr b, .int .i64 n] [Dr b s at_ bg] (RetV (.tuple #[.string ⟨#[]⟩, faultV 2 (bg + at_)]) [Dr b s at_ bg]) := by
  refine fn_ret (vs := [_, _]) Tryd.func92 rfl Tryd.ntmps92 (by simp) ?_
  repeat (first | (first | refine J_region ?_ | refine JL_nil ?_ | refine J_seq ?_) | (first | ((first | refine JL_step rfl ?_); first | refine JO_move rfl rfl ?_ | refine JO_assign rfl rfl ?_ | refine JO_lss rfl rfl rfl ?_ | refine JO_allocA rfl (fun r => ?_))))
  refine J_condP rfl (fun _ => ?_) (fun h0 => absurd hn h0)
  repeat (first | (first | refine J_region ?_ | refine JL_nil ?_ | refine J_seq ?_ | refine J_ret ?_) | (first | ((first | refine JL_step rfl ?_); first | refine JO_move rfl rfl ?_ | refine JO_assign rfl rfl ?_ | refine JO_storeW rfl rfl (by rfl) (by rfl) (by first | decide | simp [Value.oneCell']) rfl ?_ | refine JO_callV' rfl (dfault_c b s at_ bg 2 h) rfl ?_)))
  exact ⟨rfl, _, res_tcW (n := 2) (cs := [.int .i64 2, .int .i64 (bg + at_)]) rfl rfl rfl rfl, _, Ent.sel, rfl, rfl⟩
theorem dtake_short (b : Nat) (s : List UInt8) (at_ bg n : Int) (h : -9223372036854775808 ≤ bg + at_ ∧ bg + at_ ≤ 9223372036854775807) (hl : -9223372036854775808 ≤ (s.length : Int) - at_ ∧ (s.length : Int) - at_ ≤ 9223372036854775807) (h0 : 0 ≤ n) (hn : (s.length : Int) - at_ < n) :
    Ct Tryd.prog 92 #[ptr b, .int .i64 n] [Dr b s at_ bg] (RetV (.tuple #[.string ⟨#[]⟩, faultV 3 (bg + at_)]) [Dr b s at_ bg]) := by
  refine fn_ret (vs := [_, _]) Tryd.func92 rfl Tryd.ntmps92 (by simp) ?_
  repeat (first | (first | refine J_region ?_ | refine JL_nil ?_ | refine J_seq ?_) | (first | ((first | refine JL_step rfl ?_); first | refine JO_move rfl rfl ?_ | refine JO_assign rfl rfl ?_ | refine JO_lss rfl rfl rfl ?_ | refine JO_allocA rfl (fun r => ?_))))
  refine J_condP rfl (fun h1 => absurd h0 (by omega)) (fun _ => ?_)
  repeat (first | (first | refine J_region ?_ | refine JL_nil ?_ | refine J_seq ?_ | refine J_skip ?_) | (first | ((first | refine JL_step rfl ?_); first | refine JO_move rfl rfl ?_ | refine JO_gtr rfl rfl rfl ?_ | refine JO_callV' rfl (dleft_c b s at_ bg hl) rfl ?_)))
  refine J_condP rfl (fun _ => ?_) (fun h1 => absurd hn h1)
  repeat (first | (first | refine J_region ?_ | refine JL_nil ?_ | refine J_seq ?_ | refine J_ret ?_) | (first | ((first | refine JL_step rfl ?_); first | refine JO_move rfl rfl ?_ | refine JO_assign rfl rfl ?_ | refine JO_storeW rfl rfl (by rfl) (by rfl) (by first | decide | simp [Value.oneCell']) rfl ?_ | refine JO_callV' rfl (dfault_c b s at_ bg 3 h) rfl ?_)))
  exact ⟨rfl, _, res_tcW (n := 2) (cs := [.int .i64 3, .int .i64 (bg + at_)]) rfl rfl rfl rfl, _, Ent.sel, rfl, rfl⟩
theorem dtake_ok (b : Nat) (s : List UInt8) (k : Nat) (bg : Int) (n : Nat) (hk : k ≤ s.length) (hs : s.length ≤ 1000000) (hn : n ≤ s.length - k) :
    Ct Tryd.prog 92 #[ptr b, .int .i64 (n : Int)] [Dr b s (k : Int) bg] (RetV (.tuple #[str ((s.take (k + n)).drop k), faultV 0 0]) [Dr b s ((k + n : Nat) : Int) bg]) := by
  refine fn_ret (vs := [_, _]) Tryd.func92 rfl Tryd.ntmps92 (by simp) ?_
  repeat (first | (first | refine J_region ?_ | refine JL_nil ?_ | refine J_seq ?_ | refine J_skip ?_ | refine J_condF rfl ?_) | (first | ((first | refine JL_step rfl ?_); first | refine JO_move rfl rfl ?_ | refine JO_assign rfl rfl ?_ | refine JO_lss rfl rfl rfl ?_ | refine JO_gtr rfl rfl rfl ?_ | refine JO_allocA rfl (fun r => ?_) | refine JO_callV' rfl (dleft_c b s (k : Int) bg (by omega)) rfl ?_)))
  refine J_condP (p := (s.length : Int) - (k : Int) < (n : Int)) rfl (fun h1 => absurd h1 (by omega)) (fun _ => ?_)
  repeat (first | (first | refine J_seq ?_ | refine J_skip ?_) | (first | ((first | refine JL_step rfl ?_); first | refine JO_move rfl rfl ?_)))
  refine J_calm ?_
  refine J_regionG ?_
  repeat (first | refine JG_fin rfl ?_ | refine JG_n rfl rfl rfl (by kernel_rfl) (by kernel_rfl) rfl Ent.sel (by first | exact JQ_nilCheck rfl | exact JQ_sliceS (bs := s) (l := k) (h := k + n) rfl rfl (by rfl) (by omega) (by omega) | exact JQ_move rfl | exact JQ_assign rfl | exact JQ_loadB rfl | exact JQ_field0 rfl | exact JQ_add rfl rfl (by omega)) ?_)
  repeat (first | (first | refine J_region ?_ | refine JL_nil ?_ | refine J_seq ?_ | refine J_ret ?_) | (first | ((first | refine JL_step rfl ?_); first | refine JO_q (by simp) (JQ_nilCheck rfl) rfl ?_ | refine JO_build (cs := [.int .i64 0, .int .i64 0]) rfl rfl rfl ?_ | refine JO_move rfl rfl ?_ | refine JO_assign rfl rfl ?_ | refine JO_field0 rfl rfl ?_ | refine JO_load rfl rfl ?_ | refine JO_addN rfl rfl (by omega) rfl ?_ | refine JO_store rfl rfl (by first | rfl | assumption) rfl ?_ | refine JO_storeW rfl rfl (by rfl) (by rfl) (by first | decide | simp [Value.oneCell']) rfl ?_)))
  exact ⟨rfl, _, res_tcW (n := 2) (cs := [.int .i64 0, .int .i64 0]) rfl rfl rfl rfl, _, Ent.sel, rfl, rfl⟩
theorem dend_long (b : Nat) (s : List UInt8) (at_ bg : Int) (h : -9223372036854775808 ≤ bg + at_ ∧ bg + at_ ≤ 9223372036854775807) (hl : -9223372036854775808 ≤ (s.length : Int) - at_ ∧ (s.length : Int) - at_ ≤ 9223372036854775807) (hn : 0 < (s.length : Int) - at_) :
    Ct Tryd.prog 74 #[ptr b] [Dr b s at_ bg] (RetV (faultV 4 (bg + at_)) [Dr b s at_ bg]) := by
  refine fn_ret (vs := [_]) Tryd.func74 rfl Tryd.ntmps74 (by simp) ?_
  repeat (first | (first | refine J_region ?_ | refine JL_nil ?_ | refine J_seq ?_) | (first | ((first | refine JL_step rfl ?_); first | refine JO_move rfl rfl ?_ | refine JO_gtr rfl rfl rfl ?_ | refine JO_allocA rfl (fun r => ?_) | refine JO_callV' rfl (dleft_c b s at_ bg hl) rfl ?_)))
  refine J_condP (p := 0 < (s.length : Int) - at_) rfl (fun _ => ?_) (fun h1 => absurd hn h1)
  repeat (first | (first | refine J_region ?_ | refine JL_nil ?_ | refine J_seq ?_ | refine J_ret ?_) | (first | ((first | refine JL_step rfl ?_); first | refine JO_move rfl rfl ?_ | refine JO_storeW rfl rfl (by rfl) (by rfl) (by first | decide | simp [Value.oneCell']) rfl ?_ | refine JO_callV' rfl (dfault_c b s at_ bg 4 h) rfl ?_)))
  exact ⟨rfl, _, res_cellW (n := 2) (cs := [.int .i64 4, .int .i64 (bg + at_)]) rfl rfl rfl, _, Ent.sel, rfl, rfl⟩
theorem dend_ok (b : Nat) (s : List UInt8) (at_ bg : Int) (hl : -9223372036854775808 ≤ (s.length : Int) - at_ ∧ (s.length : Int) - at_ ≤ 9223372036854775807) (hn : ¬ 0 < (s.length : Int) - at_) :
    Ct Tryd.prog 74 #[ptr b] [Dr b s at_ bg] (RetV (faultV 0 0) [Dr b s at_ bg]) := by
  refine fn_ret (vs := [_]) Tryd.func74 rfl Tryd.ntmps74 (by simp) ?_
  repeat (first | (first | refine J_region ?_ | refine JL_nil ?_ | refine J_seq ?_) | (first | ((first | refine JL_step rfl ?_); first | refine JO_move rfl rfl ?_ | refine JO_gtr rfl rfl rfl ?_ | refine JO_allocA rfl (fun r => ?_) | refine JO_callV' rfl (dleft_c b s at_ bg hl) rfl ?_)))
  refine J_condP (p := 0 < (s.length : Int) - at_) rfl (fun h1 => absurd h1 hn) (fun _ => ?_)
  repeat (first | (first | refine J_region ?_ | refine JL_nil ?_ | refine J_seq ?_ | refine J_skip ?_ | refine J_ret ?_) | (first | ((first | refine JL_step rfl ?_); first | refine JO_build (cs := [.int .i64 0, .int .i64 0]) rfl rfl rfl ?_ | refine JO_storeW rfl rfl (by rfl) (by rfl) (by first | decide | simp [Value.oneCell']) rfl ?_)))
  exact ⟨rfl, _, res_cellW (n := 2) (cs := [.int .i64 0, .int .i64 0]) rfl rfl rfl, _, Ent.sel, rfl, rfl⟩
/-- A byte that is not there. -/
theorem dbyte_short (b : Nat) (s : List UInt8) (at_ bg : Int) (h : -9223372036854775808 ≤ bg + at_ ∧ bg + at_ ≤ 9223372036854775807) (hl : -9223372036854775808 ≤ (s.length : Int) - at_ ∧ (s.length : Int) - at_ ≤ 9223372036854775807) (hn : (s.length : Int) - at_ < 1) :
    Ct Tryd.prog 63 #[ptr b] [Dr b s at_ bg] (RetV (.tuple #[.int .u8 0, faultV 3 (bg + at_)]) [Dr b s at_ bg]) := by
  refine fn_ret (vs := [_]) Tryd.func63 rfl Tryd.ntmps63 (by simp) ?_
  repeat (first | (first | refine J_region ?_ | refine JL_nil ?_ | refine J_seq ?_ | refine J_condT rfl ?_) | (first | ((first | refine JL_step rfl ?_); first | refine JO_move rfl rfl ?_ | refine JO_assign rfl rfl ?_ | refine JO_field0 rfl rfl ?_ | refine JO_load rfl rfl ?_ | refine JO_neI rfl rfl rfl ?_ | refine JO_extract rfl rfl rfl ?_ | refine JO_allocA rfl (fun r => ?_) | refine JO_storeW rfl rfl (by rfl) (by rfl) (by first | decide | simp [Value.oneCell']) rfl ?_ | refine JO_callV' rfl (dtake_short b s at_ bg 1 h hl (by omega) hn) rfl ?_)))
  rename_i r3
  refine J_calm ?_
  refine J_regionGS [pt r (.cells #[.int .i64 3, .int .i64 (bg + at_)] 47 (0, 0))] ?_
  repeat (first | refine JG_n rfl rfl rfl (by kernel_rfl) (by kernel_rfl) rfl Ent.sel (by first | exact JQ_loadA [.int .i64 3, .int .i64 (bg + at_)] rfl (fun i u hu => lds_block (by rw [Nat.zero_add]; exact hu)) rfl | exact JQ_assign rfl) ?_)
  refine JG_one 2 rfl rfl (by kernel_rfl) plain_store (JO_storeW rfl rfl (by rfl) (by rfl) (by simp [Value.oneCell']) rfl ⟨Ent.sel, ?_⟩)
  repeat (first | refine JG_fin rfl ?_)
  repeat (first | (first | refine J_ret ?_) | (first | ((first | refine JL_step rfl ?_); first | refine JO_move rfl rfl ?_)))
  exact ⟨rfl, _, res_tcW (n := 2) (cs := [.int .i64 3, .int .i64 (bg + at_)]) rfl rfl rfl rfl, _, Ent.sel, rfl, rfl⟩
theorem dbyte_ok (b : Nat) (s : List UInt8) (k : Nat) (bg : Int) (c : UInt8) (hs : s.length ≤ 1000000) (hc : s[k]? = some c) :
    Ct Tryd.prog 63 #[ptr b] [Dr b s (k : Int) bg] (RetV (.tuple #[.int .u8 ((c.toNat : Nat) : Int), faultV 0 0]) [Dr b s ((k + 1 : Nat) : Int) bg]) := by
  have hk : k < s.length := (List.getElem?_eq_some_iff.1 hc).1
  have hs1 : ((s.take (k + 1)).drop k)[0]? = some c := by
    rw [List.getElem?_drop, List.getElem?_take, if_pos (by omega)]
    exact hc
  have ht : Ct Tryd.prog 92 #[ptr b, .int .i64 1] [Dr b s (k : Int) bg] (RetV (.tuple #[str ((s.take (k + 1)).drop k), faultV 0 0]) [Dr b s ((k + 1 : Nat) : Int) bg]) := dtake_ok b s k bg 1 (by omega) hs (by omega)
  refine fn_ret (vs := [_]) Tryd.func63 rfl Tryd.ntmps63 (by simp) ?_
  repeat (first | (first | refine J_region ?_ | refine JL_nil ?_ | refine J_seq ?_ | refine J_skip ?_ | refine J_condF rfl ?_) | (first | ((first | refine JL_step rfl ?_); first | refine JO_move rfl rfl ?_ | refine JO_assign rfl rfl ?_ | refine JO_field0 rfl rfl ?_ | refine JO_load rfl rfl ?_ | refine JO_neI rfl rfl rfl ?_ | refine JO_extract rfl rfl rfl ?_ | refine JO_allocA rfl (fun r => ?_) | refine JO_storeW rfl rfl (by rfl) (by rfl) (by first | decide | simp [Value.oneCell']) rfl ?_ | refine JO_callV' rfl (ht) rfl ?_)))
  rename_i r3
  refine J_calm ?_
  refine J_regionGS [pt r (.cells #[.int .i64 0, .int .i64 0] 47 (0, 0))] ?_
  repeat (first | refine JG_n rfl rfl rfl (by kernel_rfl) (by kernel_rfl) rfl Ent.sel (by first | exact JQ_idxS (bs := (s.take (k + 1)).drop k) (i := 0) (c := c) rfl rfl hs1 | exact JQ_loadA [.int .i64 0, .int .i64 0] rfl (fun i u hu => lds_block (by rw [Nat.zero_add]; exact hu)) rfl | exact JQ_move rfl | exact JQ_assign rfl) ?_)
  refine JG_one 4 rfl rfl (by kernel_rfl) plain_store (JO_storeW rfl rfl (by rfl) (by rfl) (by simp [Value.oneCell']) rfl ⟨Ent.sel, ?_⟩)
  repeat (first | refine JG_fin rfl ?_)
  repeat (first | (first | refine J_ret ?_) | (first | ((first | refine JL_step rfl ?_); first | refine JO_move rfl rfl ?_)))
  exact ⟨rfl, _, res_tcW (n := 2) (cs := [.int .i64 0, .int .i64 0]) rfl rfl rfl rfl, _, Ent.sel, rfl, rfl⟩
end Go.Proofs.YtfelcdbhlahehaaDoor

/- Layer 1: the document's reader: a part. -/
namespace Go.Proofs.YtfelcdbhlahehaaDoor
open Go Go.Sp
attribute [local irreducible] J JL JO Ct JG JM JQ JQ0 JS CtD LeavesQ
theorem dpart_fails (b : Nat) (s : List UInt8) (at_ bg n code : Int) (h : -9223372036854775808 ≤ bg + at_ ∧ bg + at_ ≤ 9223372036854775807) (hcode : code ≠ 0)
    (ht : Ct Tryd.prog 92 #[ptr b, .int .i64 n] [Dr b s at_ bg] (RetV (.tuple #[.string ⟨#[]⟩, faultV code (bg + at_)]) [Dr b s at_ bg])) :
    Ct Tryd.prog 73 #[ptr b, .int .i64 n] [Dr b s at_ bg] (RetV (.tuple #[.pointer none, faultV code (bg + at_)]) [Dr b s at_ bg]) := by
  refine fn_ret (vs := [_, _]) Tryd.func73 rfl Tryd.ntmps73 (by simp) ?_
  repeat (first | (first | refine J_region ?_ | refine JL_nil ?_ | refine J_seq ?_) | (first | ((first | refine JL_step rfl ?_); first | refine JO_move rfl rfl ?_ | refine JO_assign rfl rfl ?_ | refine JO_field0 rfl rfl ?_ | refine JO_load rfl rfl ?_ | refine JO_neI rfl rfl rfl ?_ | refine JO_extract rfl rfl rfl ?_ | refine JO_allocA rfl (fun r => ?_) | refine JO_storeW rfl rfl (by rfl) (by rfl) (by first | decide | simp [Value.oneCell']) rfl ?_ | refine JO_callV' rfl (dplace_c b s at_ bg h) rfl ?_ | refine JO_callV' rfl (ht) rfl ?_)))
  refine J_condP (p := code ≠ 0) rfl (fun _ => ?_) (fun h1 => absurd hcode h1)
  repeat (first | (first | refine J_seq ?_) | (first | ((first | refine JL_step rfl ?_); first | refine JO_move rfl rfl ?_)))
  refine J_calm ?_
  refine J_regionGS [pt r (.cells #[.int .i64 code, .int .i64 (bg + at_)] 47 (0, 0))] ?_
  repeat (first | refine JG_n rfl rfl rfl (by kernel_rfl) (by kernel_rfl) rfl Ent.sel (by first | exact JQ_loadA [.int .i64 code, .int .i64 (bg + at_)] rfl (fun i u hu => lds_block (by rw [Nat.zero_add]; exact hu)) rfl | exact JQ_assign rfl) ?_)
  refine JG_one 2 rfl rfl (by kernel_rfl) plain_store (JO_storeW rfl rfl (by rfl) (by rfl) (by simp [Value.oneCell']) rfl ⟨Ent.sel, ?_⟩)
  repeat (first | refine JG_fin rfl ?_)
  repeat (first | (first | refine J_ret ?_) | (first | ((first | refine JL_step rfl ?_); first | refine JO_move rfl rfl ?_)))
  exact ⟨rfl, _, res_tcW (n := 2) (cs := [.int .i64 code, .int .i64 (bg + at_)]) rfl rfl rfl rfl, _, Ent.sel, rfl, rfl⟩
theorem dpart_ok (b : Nat) (s : List UInt8) (k : Nat) (bg : Int) (n : Nat) (hk : k ≤ s.length) (hs : s.length ≤ 1000000) (hn : n ≤ s.length - k) (h : -9223372036854775808 ≤ bg + (k : Int) ∧ bg + (k : Int) ≤ 9223372036854775807) :
    Ct Tryd.prog 73 #[ptr b, .int .i64 (n : Int)] [Dr b s (k : Int) bg] (RetE (fun _ : Nat => True) (fun q => .tuple #[ptr q, faultV 0 0]) (fun q => [Dr b s ((k + n : Nat) : Int) bg, Dr q ((s.take (k + n)).drop k) 0 (bg + (k : Int))])) := by
  refine fn_ret (vs := [_, _]) Tryd.func73 rfl Tryd.ntmps73 (by simp) ?_
  repeat (first | (first | refine J_region ?_ | refine JL_nil ?_ | refine J_seq ?_ | refine J_skip ?_ | refine J_condF rfl ?_) | (first | ((first | refine JL_step rfl ?_); first | refine JO_move rfl rfl ?_ | refine JO_assign rfl rfl ?_ | refine JO_field0 rfl rfl ?_ | refine JO_load rfl rfl ?_ | refine JO_neI rfl rfl rfl ?_ | refine JO_extract rfl rfl rfl ?_ | refine JO_allocA rfl (fun r => ?_) | refine JO_storeW rfl rfl (by rfl) (by rfl) (by first | decide | simp [Value.oneCell']) rfl ?_ | refine JO_callV' rfl (dplace_c b s (k : Int) bg h) rfl ?_ | refine JO_callV' rfl (dtake_ok b s k bg n hk hs hn) rfl ?_)))
  rename_i r3
  refine J_calm ?_
  refine J_regionGS [pt r (.cells #[.int .i64 0, .int .i64 0] 47 (0, 0))] ?_
  repeat (first | refine JG_n rfl rfl rfl (by kernel_rfl) (by kernel_rfl) rfl Ent.sel (by first | exact JQ_build (cs := [str ((s.take (k + n)).drop k), .int .i64 0, .int .i64 (bg + (k : Int))]) rfl rfl | exact JQ_move rfl) ?_)
  refine JG_take 4 rfl rfl (by kernel_rfl) (by kernel_rfl) (by kernel_rfl) rfl Ent.sel (JQ_loadA [.int .i64 0, .int .i64 0] rfl (fun i u hu => lds_block (by rw [Nat.zero_add]; exact hu)) rfl) ?_
  refine JG_one 3 rfl rfl (by kernel_rfl) plain_box (JO_boxA rfl rfl (fun q => ⟨Ent.sel, ?_⟩))
  repeat (first | refine JG_n rfl rfl rfl (by kernel_rfl) (by kernel_rfl) rfl Ent.sel (by first | exact JQ_assign rfl) ?_)
  refine JG_one 6 rfl rfl (by kernel_rfl) plain_store (JO_storeW rfl rfl (by rfl) (by rfl) (by simp [Value.oneCell']) rfl ⟨Ent.sel, ?_⟩)
  repeat (first | refine JG_fin rfl ?_)
  repeat (first | (first | refine J_ret ?_) | (first | ((first | refine JL_step rfl ?_); first | refine JO_move rfl rfl ?_)))
  exact ⟨rfl, _, res_tcW (n := 2) (cs := [.int .i64 0, .int .i64 0]) rfl rfl rfl rfl, _, Ent.sel, q, trivial, rfl, rfl⟩
end Go.Proofs.YtfelcdbhlahehaaDoor
