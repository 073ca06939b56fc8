/- Shifts; slices of slices. -/
import Derived.Test.YtejhdhmopiahhaaDoorSp8
namespace Go.Sp
open Go.RowKit

theorem fold_set : ∀ (cs : List Value) (j : Nat) (pre mid post : List Value), mid.length = j → cs.length ≤ post.length →
    ((cs.zipIdx j).foldl (fun (acc : Array Value) (x : Value × Nat) => acc.setIfInBounds (pre.length + x.2) x.1) (pre ++ mid ++ post).toArray) = (pre ++ mid ++ cs ++ post.drop cs.length).toArray := by
  intro cs
  induction cs with
  | nil => intro j pre mid post _ _; simp
  | cons c cs ih2 =>
    intro j pre mid post hm hl
    obtain ⟨p, post, rfl⟩ : ∃ p l, post = p :: l := by cases post with | nil => simp at hl | cons p l => exact ⟨p, l, rfl⟩
    have hset : (pre ++ mid ++ p :: post).set (pre.length + j) c = pre ++ (mid ++ [c]) ++ post := by
      rw [← hm, ← List.length_append, List.set_append_right _ _ (Nat.le_refl _)]
      simp
    simp only [List.zipIdx_cons, List.foldl_cons, List.setIfInBounds_toArray, hset]
    rw [ih2 (j + 1) pre (mid ++ [c]) post (by simp [hm]) (by simpa using hl)]
    simp
/-- What 'fill' does, on lists. -/
def fillL (pl : List (Nat × Nat)) : List Value → List (Nat × Value) → Option (List Value)
  | cells, [] => some cells
  | cells, (i, v) :: rest => match pl[i]? with
    | none => none
    | some (off, size) => match Nat.beq v.cells.toList.length size, Nat.ble (off + size) cells.length with
      | true, true => fillL pl (cells.take off ++ v.cells.toList ++ cells.drop (off + size)) rest
      | _, _ => none
theorem fill_eq (pl : List (Nat × Nat)) : ∀ (parts : List (Nat × Value)) (cells cs : List Value), fillL pl cells parts = some cs → Instr.fill (fun i => pl[i]?) cells.toArray parts = some cs.toArray := by
  intro parts
  induction parts with
  | nil => intro cells cs h; simp [fillL] at h; simp [Instr.fill, h]
  | cons p parts ih =>
    intro cells cs h
    obtain ⟨i, v⟩ := p
    simp only [fillL] at h
    simp only [Instr.fill]
    cases hp : pl[i]? with
    | none => simp [hp] at h
    | some q =>
      obtain ⟨off, size⟩ := q
      simp only [hp] at h ⊢
      split at h
      · rename_i h1 h2
        have h1 := Nat.eq_of_beq_eq_true h1
        have h2 := Nat.le_of_ble_eq_true h2
        have h1' : v.cells.size = size := by simpa using h1
        have hc : ¬ ((v.cells.size ≠ size || off + v.cells.size > cells.toArray.size) = true) := by simp [h1']; omega
        rw [if_neg hc]
        have hf := fold_set v.cells.toList 0 (cells.take off) [] (cells.drop off) rfl (by simp; omega)
        have ho : (cells.take off).length = off := by simp; omega
        simp only [List.append_nil, List.take_append_drop, ho, List.drop_drop, h1] at hf
        have : (v.cells.zipIdx.foldl (fun (cs : Array Value) (x : Value × Nat) => cs.setIfInBounds (off + x.2) x.1) cells.toArray) = (cells.take off ++ v.cells.toList ++ cells.drop (off + size)).toArray := by
          rw [← hf, ← Array.foldl_toList, Array.toList_zipIdx]
        rw [this]
        exact ih _ _ h
      · cases h
/-- A struct's places. -/
def placesOf (P : Program) (t : TypeId) : Option (List (Nat × Nat)) := match P.underlying t with
  | some (.struct fs) => fs.toList.mapM fun f => (P.info? f.type).map fun i => (f.offset, i.size)
  | _ => none
class TB (P : Program) (t : TypeId) (pl : outParam (List (Nat × Nat))) : Prop where h : placesOf P t = some pl
def pevs (E : Env) : List (Nat × Operand) → Option (List (Nat × Value))
  | [] => some []
  | (i, x) :: l => match ev E x, pevs E l with
    | some v, some vs => some ((i, v) :: vs)
    | _, _ => none
theorem Rep.pevs {N : Nat} {E : Env} {D : List Deferred} {a : Act} (hr : Rep N E D a) : ∀ {l : List (Nat × Operand)} {vs : List (Nat × Value)}, Sp.pevs E l = some vs → l.map (fun x => (x.1, a.eval x.2)) = vs := by
  intro l
  induction l with
  | nil => intro vs h; simp [Sp.pevs] at h; simp [h]
  | cons p l ih =>
    intro vs h
    obtain ⟨i, x⟩ := p
    simp only [Sp.pevs] at h
    split at h
    · rename_i v vs' h1 h2
      cases h
      simp [hr.eval h1, ih h2]
    · cases h
theorem run_places {P : Program} (fs : List Field) (pl : List (Nat × Nat)) (h : (fs.mapM fun f => (P.info? f.type).map fun i => (f.offset, i.size)) = some pl) (w : World) : (fs.mapM fun f => Prod.mk f.offset <$> sizeOf f.type : Sem (List (Nat × Nat))).run P w = .ok pl w := by
  induction fs generalizing pl with
  | nil => simp at h; simp [← h]
  | cons f fs ih =>
    rw [List.mapM_cons] at h
    simp only [Option.bind_eq_bind, Option.bind_eq_some_iff, Option.map_eq_some_iff, Option.pure_def, Option.some.injEq] at h
    obtain ⟨q, ⟨i, hi, rfl⟩, ps, hps, rfl⟩ := h
    rw [List.mapM_cons]
    simp [run_sizeOf' hi, ih ps hps]

section
variable {P : Program} {N : Nat} {rd : Option Nat} {E : Env} {D : List Deferred} {L : List HP} {Q : Post} {next : Env → List Deferred → List HP → Prop}
variable {d : Option Nat} {ty : TypeId} {pos : String} {after : Array Edge} {g : Option (Nat × Bool)}
theorem JO_shrK {x y : Operand} {m n : Int} {t u : TypeId} {k yk : IntKind} (hx : ev E x = some (.int k m)) (hy : ev E y = some (.int yk n)) (hn : 0 ≤ n ∧ n ≤ k.bits) (hd : dok N d = true) (h : next (put E d (.int k (m / 2 ^ n.toNat))) D L) : JO P N rd ⟨d, .binOp .shr t x y u, ty, pos, after, g⟩ E D L next Q :=
  JO_pure _ (fun c => by simp) hd (fun a w hr => by simp [execOp, hr.eval hx, hr.eval hy, eqGuard, binOp, shift_shr k yk m n hn.1 hn.2]) h
theorem JO_build {t : TypeId} {zc : List Value} {n k : Nat} [TI P t (.agg zc.toArray) n k] {pl : List (Nat × Nat)} [TB P t pl] {parts : Array (Nat × Operand)} {vs : List (Nat × Value)} {cs : List Value} (hp : pevs E parts.toList = some vs) (hf : fillL pl zc vs = some cs)
    (hd : dok N d = true) (h : next (put E d (.agg cs.toArray)) D L) : JO P N rd ⟨d, .build t parts, ty, pos, after, g⟩ E D L next Q :=
  JO_value (fun c => by simp) hd fun F a w hr hs => ⟨_, w, L, by
    obtain ⟨i, h1, h2, h3, h4⟩ := TI.h (P := P) (t := t) (z := .agg zc.toArray) (n := n) (b := k)
    have hpl := TB.h (P := P) (t := t) (pl := pl)
    unfold placesOf at hpl
    cases hu : P.underlying t with
    | none => simp [hu] at hpl
    | some td =>
      cases td with
      | struct fs =>
        simp only [hu] at hpl
        have h5 := run_places _ _ hpl w
        have h6 := fill_eq pl vs zc cs hf
        have h7 := hr.pevs hp
        have h8 : (fs.mapM fun f => Prod.mk f.offset <$> sizeOf f.type : Sem (Array (Nat × Nat))).run P w = .ok pl.toArray w := by
          rw [Array.mapM_eq_mapM_toList]
          simp only [Sem.run_map, h5]
          rfl
        simp [execOp, Instr.build, run_zeroValue' h1 h2, run_underlying' hu, h8, Value.cells, Array.toList_map, h7, h6]
      | _ => simp [hu] at hpl, hs, h⟩
theorem run_loadVarW {t n : TypeId} [TA P t n] {b : Nat} {cs : List Value} {bt : TypeId} {fz : Nat × Nat} [hb : HB L b (.cells cs.toArray bt fz)] (hn : cs.length = n) {F : HP} {w : World} (hs : Sat w (F :: L)) : (loadVar t ⟨b, 0, none⟩).run P w = .ok (.agg cs.toArray) w := by
  obtain ⟨_, i, hi, hsz⟩ := TA.h (P := P) (t := t) (n := n)
  have h1 := run_loadCells_block (P := P) (off := 0) (n := n) (hb.h F w hs) (by omega)
  rw [List.drop_zero, List.take_of_length_le (by omega)] at h1
  simp [loadVar, run_isAggA (P := P) (t := t) (n := n), run_sizeOf' hi, hsz, h1]
theorem res_cellW {fn : Func} {a t n : Nat} [TA P t n] {b : Nat} {cs : List Value} {bt : TypeId} {fz : Nat × Nat} (h : fn.results = #[.cell a t]) (hv : Env.get E a = some (.pointer (some ⟨b, 0, none⟩))) [hb : HB L b (.cells cs.toArray bt fz)] (hn : cs.length = n) : Res P N fn E L (.agg cs.toArray) := fun F c w _ hr hs => by
  have h1 : (c.tmps.getD a undef) = .pointer (some ⟨b, 0, none⟩) := hr.eval (x := .tmp a) hv
  have h2 := run_loadVarW (P := P) (L := L) (t := t) (n := n) (b := b) (cs := cs) (bt := bt) (fz := fz) hn hs
  have h1 := Array.getD_eq_getD_getElem? .. ▸ h1
  simp [results, h, h1, asAddr, h2]
theorem res_cellW3 {fn : Func} {a t n u s : Nat} [TA P t n] {b : Nat} {cs : List Value} {bt : TypeId} {fz : Nat × Nat} {x y : Value} (h : fn.results = #[.cell a t, .tmp u, .tmp s]) (hv : Env.get E a = some (.pointer (some ⟨b, 0, none⟩))) (hx : Env.get E u = some x) (hy : Env.get E s = some y) [hb : HB L b (.cells cs.toArray bt fz)] (hn : cs.length = n) : Res P N fn E L (.tuple #[.agg cs.toArray, x, y]) := fun F c w _ hr hs => by
  have h1 : (c.tmps.getD a undef) = .pointer (some ⟨b, 0, none⟩) := hr.eval (x := .tmp a) hv
  have h3 : (c.tmps.getD u undef) = x := hr.eval (x := .tmp u) hx
  have h4 : (c.tmps.getD s undef) = y := hr.eval (x := .tmp s) hy
  have h2 := run_loadVarW (P := P) (L := L) (t := t) (n := n) (b := b) (cs := cs) (bt := bt) (fz := fz) hn hs
  have h1 := Array.getD_eq_getD_getElem? .. ▸ h1
  simp [results, h, h1, ← h3, ← h4, asAddr, h2]
theorem ret_cell {α : Type} {φ : α → Prop} {v : α → Value} {L0 : α → List HP} {fn : Func} {a t n : Nat} [TA P t n] {b : Nat} {cs : List Value} {bt : TypeId} {fz : Nat × Nat} (hr : fn.results = #[.cell a t]) (hv : Env.get E a = some (.pointer (some ⟨b, 0, none⟩))) [hb : HB L b (.cells cs.toArray bt fz)] (hn : cs.length = n) (x : α) (hφ : φ x) (hu : .agg cs.toArray = v x) (he : Ent L (L0 x)) :
    bodyQ P N fn (fun e L => ∃ L', Ent L L' ∧ RetE φ v L0 e L') .ret E [] L := ⟨rfl, _, res_cellW (b := b) (cs := cs) (bt := bt) (fz := fz) hr hv hn, _, he, x, hφ, by rw [hu], rfl⟩
theorem ret_cell3 {α : Type} {φ : α → Prop} {v : α → Value} {L0 : α → List HP} {fn : Func} {a t n u s : Nat} [TA P t n] {b : Nat} {cs : List Value} {bt : TypeId} {fz : Nat × Nat} {y z : Value} (hr : fn.results = #[.cell a t, .tmp u, .tmp s]) (hv : Env.get E a = some (.pointer (some ⟨b, 0, none⟩))) (hy : Env.get E u = some y) (hz : Env.get E s = some z) [hb : HB L b (.cells cs.toArray bt fz)] (hn : cs.length = n) (x : α) (hφ : φ x) (hu : .tuple #[.agg cs.toArray, y, z] = v x) (he : Ent L (L0 x)) :
    bodyQ P N fn (fun e L => ∃ L', Ent L L' ∧ RetE φ v L0 e L') .ret E [] L := ⟨rfl, _, res_cellW3 (b := b) (cs := cs) (bt := bt) (fz := fz) hr hv hy hz hn, _, he, x, hφ, by rw [hu], rfl⟩
end
end Go.Sp
