/- Maps from numbers, of the call's own. -/
import Derived.Test.YtejhdhmopiahhaaDoorSp7
namespace Go.Sp
open Go.RowKit

def isKey (k : Int) (e : MapEntry) : Bool := match e.key with | .int .i64 a => a == k | _ => false
def keyed (e : MapEntry) : Prop := ∃ a, e.key = .int .i64 a
def mlook (es : List MapEntry) (k : Int) : Option Value := (es.find? (isKey k)).map (·.val)

theorem findNow_int {q : IntKind} (k : Int) : ∀ (es : List MapEntry) (i : Nat), (∀ e ∈ es, keyed e) →
    Instr.findNow (.int q) (.int .i64 k) es i = some ((es.findIdx? (isKey k)).map fun j => (i + j, ((es[j]?).map (·.val)).getD undef)) := by
  intro es
  induction es with
  | nil => intro i _; simp [Instr.findNow]
  | cons e es ih =>
    intro i h
    obtain ⟨a, ha⟩ := h e (by simp)
    have hk : isKey k e = (a == k) := by simp [isKey, ha]
    simp only [Instr.findNow, ha, Instr.sameNow, if_true, List.findIdx?_cons, hk]
    by_cases hak : k = a
    · subst hak; simp
    · have h1 : (k == a) = false := by simpa using hak
      have h2 : (a == k) = false := by simpa using Ne.symm hak
      simp only [h1, h2, Bool.false_eq_true, if_false]
      rw [ih (i + 1) (fun e' he' => h e' (by simp [he']))]
      cases es.findIdx? (isKey k) with
      | none => simp
      | some j => simp; omega

/-- b: a map of the call's own from int; what it holds. -/
def MpI (b : Nat) (f : Int → Option Value) : HP := fun h => ∃ es clock, h (some b) = some (false, .obj (.map es clock)) ∧ (∀ e ∈ es.toList, keyed e) ∧ ∀ k, mlook es.toList k = f k

theorem mlook_idx {es : List MapEntry} {k : Int} : mlook es k = (es.findIdx? (isKey k)).map fun j => ((es[j]?).map (·.val)).getD undef := by
  unfold mlook
  induction es with
  | nil => simp
  | cons e es ih =>
    by_cases h : isKey k e = true
    · simp [h, List.findIdx?_cons]
    · have h' : isKey k e = false := by simpa using h
      simp only [List.find?_cons, h', List.findIdx?_cons, Bool.false_eq_true, if_false]
      rw [ih]
      cases es.findIdx? (isKey k) <;> simp

theorem mlook_push {es : List MapEntry} {k : Int} {v : Value} {c : Nat} (h : es.findIdx? (isKey k) = none) (j : Int) : mlook (es ++ [{ key := .int .i64 k, val := v, born := c }]) j = if j = k then some v else mlook es j := by
  unfold mlook
  rw [List.find?_append]
  by_cases hj : j = k
  · subst hj
    have : es.find? (isKey j) = none := by
      rw [List.findIdx?_eq_none_iff] at h
      rw [List.find?_eq_none]
      intro e he
      simp [h e he]
    simp [this, isKey]
  · have : isKey j { key := .int .i64 k, val := v, born := c } = false := by simp [isKey]; exact fun e => hj e.symm
    simp [hj, this]

theorem mlook_modify {es : List MapEntry} {k : Int} {v : Value} : ∀ {i : Nat}, es.findIdx? (isKey k) = some i → ∀ j : Int, mlook (es.modify i fun e => { e with key := .int .i64 k, val := v }) j = if j = k then some v else mlook es j := by
  unfold mlook
  induction es with
  | nil => intro i h; simp at h
  | cons e es ih =>
    intro i h j
    rw [List.findIdx?_cons] at h
    by_cases hk : isKey k e = true
    · simp only [hk, if_true, Option.some.injEq] at h
      subst h
      by_cases hj : j = k
      · subst hj; simp [isKey]
      · have h1 : isKey j { e with key := .int .i64 k, val := v } = false := by simp [isKey]; exact fun h => hj h.symm
        have h2 : isKey j e = false := by
          unfold isKey at hk ⊢
          cases he : e.key <;> simp_all
          rename_i q a
          cases q <;> simp_all
          exact fun h => hj h.symm
        simp [hj, h1, h2]
    · have hk' : isKey k e = false := by simpa using hk
      simp only [hk', Bool.false_eq_true, if_false, Option.map_eq_some_iff] at h
      obtain ⟨i', h1, rfl⟩ := h
      simp only [List.modify_succ_cons, List.find?_cons]
      by_cases hj : isKey j e = true
      · have : j ≠ k := fun h => by subst h; simp [hk'] at hj
        simp [hj, this]
      · have hj' : isKey j e = false := by simpa using hj
        simp only [hj']
        exact ih h1 j

theorem run_findKey {P : Program} {t : TypeId} {q : IntKind} (ht : P.underlying t = some (.int q)) (k : Int) (es : List MapEntry) (h : ∀ e ∈ es, keyed e) (w : World) :
    (Instr.findKey t (.int .i64 k) es).run P w = .ok ((es.findIdx? (isKey k)).map fun j => (j, ((es[j]?).map (·.val)).getD undef)) w := by
  unfold Instr.findKey
  simp only [Sem.run_bind, run_underlying' ht, Result.andThen_ok, findNow_int k es 0 h, Nat.zero_add, Sem.run_pure]
theorem run_checkKey {P : Program} {t : TypeId} {q : IntKind} (ht : P.underlying t = some (.int q)) (b : Bool) (k : Int) (w : World) : (Instr.checkKey b 10000 t (.int .i64 k)).run P w = .ok () w := by
  unfold Instr.checkKey
  simp [run_underlying' ht]

def updF (f : Int → Option Value) (k : Int) (v : Value) : Int → Option Value := fun j => if j = k then some v else f j

class TkM (b : Nat) (L : List HP) (f : outParam (Int → Option Value)) (M : outParam (List HP)) : Prop where h : L.Perm (MpI b f :: M)
instance tkm_head (b : Nat) (f : Int → Option Value) (L : List HP) : TkM b (MpI b f :: L) f L := ⟨.refl _⟩
instance (priority := low) tkm_tail (b : Nat) (f : Int → Option Value) (A : HP) (L M : List HP) [h : TkM b L f M] : TkM b (A :: L) f (A :: M) := ⟨(h.h.cons A).trans (List.Perm.swap _ _ _)⟩

theorem Sat.map_open {w : World} {b : Nat} {f : Int → Option Value} {L : List HP} (h : Sat w (MpI b f :: L)) : ∃ es clock, Sat w (pt b (.map es clock) :: L) ∧ (∀ e ∈ es.toList, keyed e) ∧ ∀ k, mlook es.toList k = f k := by
  obtain ⟨⟨es, clock⟩, hs⟩ := h.outE (α := Array MapEntry × Nat) (B := fun x k => k (some b) = some (false, .obj (.map x.1 x.2)) ∧ (∀ e ∈ x.1.toList, keyed e) ∧ ∀ j, mlook x.1.toList j = f j) (fun k ⟨es, clock, h1, h2, h3⟩ => ⟨(es, clock), h1, h2, h3⟩)
  have hf := hs.out (φ := (∀ e ∈ es.toList, keyed e) ∧ ∀ j, mlook es.toList j = f j) (fun k hk => hk.2)
  exact ⟨es, clock, hs.conv fun k hk => hk.1, hf.1, hf.2⟩

section
variable {P : Program} {N : Nat} {rd : Option Nat} {E : Env} {D : List Deferred} {L : List HP} {Q : Post} {next : Env → List Deferred → List HP → Prop}
variable {d : Option Nat} {ty : TypeId} {pos : String} {after : Array Edge} {g : Option (Nat × Bool)}
theorem JO_makeMap {t : TypeId} (hd : dok N d = true) (h : ∀ b, next (put E d (.map (some b))) D (MpI b (fun _ => none) :: L)) : JO P N rd ⟨d, .makeMap t none, ty, pos, after, g⟩ E D L next Q :=
  JO_value (fun c => by simp) hd fun F a w hr hs => ⟨_, _, _, by simp [execOp, Instr.makeMap], ((hs.new (.map #[] 0)).conv fun k hk => ⟨#[], 0, hk, by simp, by simp [mlook]⟩).swap, h _⟩
theorem sat_mapUpdate {w : World} {t kt et b : Nat} {q : IntKind} [TU P t (.map kt et)] [TU P kt (.int q)] {f : Int → Option Value} {L : List HP} (hs : Sat w (MpI b f :: L)) (k : Int) (v : Value) :
    ∃ w', (Instr.mapUpdate t (.map (some b)) (.int .i64 k) v).run P w = .ok () w' ∧ Sat w' (MpI b (updF f k v) :: L) := by
  obtain ⟨es, clock, h1, h2, h3⟩ := hs.map_open
  have hb := h1.pt_heap
  have hget : (getObj b).run P w = .ok (.map es clock) w := by simp [getObj, Sem.run, hb]
  have hset : ∀ o, (Go.setObj b o : Sem Unit).run P w = .ok () (Sp.setObj w b o) := fun o => by simp [Go.setObj, Sem.run, hb, Sp.setObj]
  have hfk := run_findKey (P := P) (TU.h (P := P) (t := kt)) k es.toList h2 w
  have hck := run_checkKey (P := P) (TU.h (P := P) (t := kt)) false k w
  cases hx : es.toList.findIdx? (isKey k) with
  | none =>
    refine ⟨Sp.setObj w b (.map (es.push { key := .int .i64 k, val := v, born := clock }) (clock + 1)), ?_, ?_⟩
    · unfold Instr.mapUpdate
      simp only [Sem.run_bind, run_underlying' (TU.h (P := P) (t := t)), Result.andThen_ok, hget, hck, hfk, hx, Option.map_none]
      exact hset _
    · refine (h1.set_pt _).conv fun p hp => ⟨_, _, hp, ?_, fun j => ?_⟩
      · intro e he
        simp only [Array.toList_push, List.mem_append, List.mem_singleton] at he
        rcases he with he | rfl
        · exact h2 e he
        · exact ⟨k, rfl⟩
      · rw [Array.toList_push, mlook_push hx, updF, h3]
  | some i =>
    have hi : i < es.toList.length := (List.findIdx?_eq_some_iff_getElem.1 hx).1
    have hkey := (List.findIdx?_eq_some_iff_getElem.1 hx).2.1
    have hkk : (es[i]?).map (·.key) = some (.int .i64 k) := by
      obtain ⟨a, ha⟩ := h2 es.toList[i] (List.getElem_mem hi)
      have : a = k := by
        unfold isKey at hkey
        rw [ha] at hkey
        simpa using hkey
      have h5 : es[i]? = some es.toList[i] := by simp
      rw [h5, Option.map_some, ha, this]
    refine ⟨Sp.setObj w b (.map (es.modify i fun e => { e with key := .int .i64 k, val := v }) clock), ?_, ?_⟩
    · unfold Instr.mapUpdate
      simp only [Sem.run_bind, run_underlying' (TU.h (P := P) (t := t)), Result.andThen_ok, hget, hck, hfk, hx, Option.map_some, hkk, Option.getD_some]
      have hst : (Instr.keyThatStays (.int .i64 k) (.int .i64 k)).run P w = .ok (.int .i64 k) w := by simp [Instr.keyThatStays, Instr.sameBits]
      simp only [hst, Result.andThen_ok]
      exact hset _
    · refine (h1.set_pt _).conv fun p hp => ⟨_, _, hp, ?_, fun j => ?_⟩
      · intro e he
        obtain ⟨n, hn, rfl⟩ := List.getElem_of_mem he
        by_cases hni : n = i
        · subst hni; exact ⟨k, by simp⟩
        · simp only [Array.toList_modify] at hn ⊢
          rw [List.getElem_modify]
          simp only [Ne.symm hni, if_false]
          exact h2 _ (List.getElem_mem _)
      · rw [Array.toList_modify, mlook_modify hx, updF, h3]
theorem JO_mapUpdate {t kt et b : Nat} {q : IntKind} [TU P t (.map kt et)] [TU P kt (.int q)] {f : Int → Option Value} {M : List HP} {m x y : Operand} {k : Int} {v : Value} (hm : ev E m = some (.map (some b))) (hx : ev E x = some (.int .i64 k)) (hy : ev E y = some v)
    [hk : TkM b L f M] (hd : dok N d = true) (h : next (put E d undef) D (MpI b (updF f k v) :: M)) : JO P N rd ⟨d, .mapUpdate t m x y, ty, pos, after, g⟩ E D L next Q :=
  JO_unit (fun c => by simp) hd fun F a w hr hs => by
    obtain ⟨w', h1, h2⟩ := sat_mapUpdate (P := P) (t := t) (hs.perm (hk.h.cons F)).swap k v
    exact ⟨w', _, by simp [execOp, hr.eval hm, hr.eval hx, hr.eval hy, h1], h2.swap, h⟩
theorem JO_insert {t kt et b : Nat} {q : IntKind} [TU P t (.map kt et)] [TU P kt (.int q)] {f : Int → Option Value} {M : List HP} {m x y : Operand} {k : Int} {v : Value} (hm : ev E m = some (.map (some b))) (hx : ev E x = some (.int .i64 k)) (hy : ev E y = some v)
    [hk : TkM b L f M] (hd : dok N d = true) (h : next (put E d undef) D (MpI b (updF f k v) :: M)) : JO P N rd ⟨d, .insert t m x y, ty, pos, after, g⟩ E D L next Q :=
  JO_unit (fun c => by simp) hd fun F a w hr hs => by
    obtain ⟨w', h1, h2⟩ := sat_mapUpdate (P := P) (t := t) (hs.perm (hk.h.cons F)).swap k v
    exact ⟨w', _, by simp [execOp, hr.eval hm, hr.eval hx, hr.eval hy, h1], h2.swap, h⟩
theorem run_lookup {w : World} {t kt et b : Nat} {q : IntKind} [TU P t (.map kt et)] [TU P kt (.int q)] {z : Value} {n c : Nat} [TI P et z n c] {f : Int → Option Value} {L : List HP} (hs : Sat w (MpI b f :: L)) (k : Int) (ok : Bool) :
    (Instr.lookup t (.map (some b)) (.int .i64 k) ok).run P w = .ok (if ok then .tuple #[(f k).getD z, .bool (f k).isSome] else (f k).getD z) w := by
  obtain ⟨es, clock, h1, h2, h3⟩ := hs.map_open
  obtain ⟨i, hi, hz, _, _⟩ := TI.h (P := P) (t := et) (z := z) (n := n) (b := c)
  have hb := h1.pt_heap
  have hget : (getObj b).run P w = .ok (.map es clock) w := by simp [getObj, Sem.run, hb]
  have hfk := run_findKey (P := P) (TU.h (P := P) (t := kt)) k es.toList h2 w
  have hck := run_checkKey (P := P) (TU.h (P := P) (t := kt)) es.isEmpty k w
  have hl := h3 k
  rw [mlook_idx] at hl
  unfold Instr.lookup
  simp only [Sem.run_bind, run_underlying' (TU.h (P := P) (t := t)), Result.andThen_ok, hget, Sem.run_pure, hck, hfk]
  cases hx : es.toList.findIdx? (isKey k) with
  | none =>
    rw [hx] at hl
    simp only [Option.map_none] at hl ⊢
    cases ok <;> simp [run_zeroValue' hi hz, ← hl]
  | some j =>
    rw [hx] at hl
    simp only [Option.map_some] at hl ⊢
    cases ok <;> simp [← hl]
theorem JO_lookup {t kt et b : Nat} {q : IntKind} [TU P t (.map kt et)] [TU P kt (.int q)] {z : Value} {n c : Nat} [TI P et z n c] {f : Int → Option Value} {M : List HP} {m x : Operand} {k : Int} (hm : ev E m = some (.map (some b))) (hx : ev E x = some (.int .i64 k))
    [hk : TkM b L f M] (hd : dok N d = true) (h : next (put E d ((f k).getD z)) D L) : JO P N rd ⟨d, .lookup t m x false, ty, pos, after, g⟩ E D L next Q :=
  JO_value (fun c => by simp) hd fun F a w hr hs => by
    have h1 := run_lookup (P := P) (t := t) (z := z) (hs.perm (hk.h.cons F)).swap k false
    exact ⟨_, w, L, by simp [execOp, hr.eval hm, hr.eval hx, h1], hs, h⟩
theorem JO_lookupOk {t kt et b : Nat} {q : IntKind} [TU P t (.map kt et)] [TU P kt (.int q)] {z : Value} {n c : Nat} [TI P et z n c] {f : Int → Option Value} {M : List HP} {m x : Operand} {k : Int} (hm : ev E m = some (.map (some b))) (hx : ev E x = some (.int .i64 k))
    [hk : TkM b L f M] (hd : dok N d = true) (h : next (put E d (.tuple #[(f k).getD z, .bool (f k).isSome])) D L) : JO P N rd ⟨d, .lookup t m x true, ty, pos, after, g⟩ E D L next Q :=
  JO_value (fun c => by simp) hd fun F a w hr hs => by
    have h1 := run_lookup (P := P) (t := t) (z := z) (hs.perm (hk.h.cons F)).swap k true
    exact ⟨_, w, L, by simp [execOp, hr.eval hm, hr.eval hx, h1], hs, h⟩
end
end Go.Sp
