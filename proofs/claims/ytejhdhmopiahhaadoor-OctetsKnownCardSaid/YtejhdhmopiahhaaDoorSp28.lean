/- A text's bytes, put behind an owned row. -/
import Derived.Test.YtejhdhmopiahhaaDoorSp27
import Derived.Lib.AppendStr
namespace Go.Sp
open Go.RowKit Go.Lib
theorem strCells_by8 (bs : List UInt8) : strCells ⟨bs.toArray⟩ = by8 bs := by
  simp [strCells, by8]
theorem sat_appendS {P : Program} {w : World} {L : List HP} {t u e ty : Nat} (ht : P.underlying t = some (.slice e)) (hu : P.underlying u = some .string) [TI P e (.int .u8 0) 1 1] {v : Value} {n : Nat} {cs : List Value} (bs : List UInt8)
    (hs : Sat w (OwnS e 1 v n cs :: L)) (hb : n + bs.length ≤ 140737488355328) :
    ∃ v' w', (Builtin.append_ #[t, u] ty #[v, str bs]).run P w = .ok v' w' ∧ Sat w' (OwnS e 1 v' (n + bs.length) (cs ++ by8 bs) :: L) := by
  obtain ⟨i, hi, hz, hsize, hbytes⟩ := TI.h (P := P) (t := e) (z := .int .u8 0) (n := 1) (b := 1)
  have hml : n + bs.length ≤ maxLen := by simp [maxLen]; omega
  have hsz : (⟨bs.toArray⟩ : ByteArray).size = bs.length := size_str bs
  obtain ⟨h0, hcase⟩ := hs.own_cases
  have grown : ∀ old, Sat w L → Sat (w.drew.alloc (.cells (cs.toArray ++ (by8 bs).toArray ++ Builtin.zeroCells (Value.int .u8 0).cells (grownCap w (n + bs.length) old e - (n + bs.length))) e))
      (OwnS e 1 (.slice (some ⟨w.heap.size, 0, none⟩) (n + bs.length) (grownCap w (n + bs.length) old e)) (n + bs.length) (cs ++ by8 bs) :: L) := fun old hs' => by
    have hge := grownCap_ge w (n + bs.length) old e
    have hmx := grownCap_le_maxLen w (n + bs.length) old e hml
    have hnew := (hs'.world (w' := w.drew) rfl).new (.cells (cs ++ by8 bs ++ (Builtin.zeroCells (Value.int .u8 0).cells (grownCap w (n + bs.length) old e - (n + bs.length))).toList).toArray e)
    have hsz2 : w.drew.heap.size = w.heap.size := rfl
    rw [hsz2] at hnew
    have hcells : (cs ++ by8 bs ++ (Builtin.zeroCells (Value.int .u8 0).cells (grownCap w (n + bs.length) old e - (n + bs.length))).toList).toArray = cs.toArray ++ (by8 bs).toArray ++ Builtin.zeroCells (Value.int .u8 0).cells (grownCap w (n + bs.length) old e - (n + bs.length)) := by apply Array.ext'; simp
    have h3 : (cs ++ by8 bs).length + (Builtin.zeroCells (Value.int .u8 0).cells (grownCap w (n + bs.length) old e - (n + bs.length))).toList.length = grownCap w (n + bs.length) old e * 1 := by
      rw [length_cells_pos (sz := 1) rfl, List.length_append, h0, length_by8]; omega
    have := Sat.own_block (n := n + bs.length) (sz := 1) (cap := grownCap w (n + bs.length) old e) hnew (by simp [h0, length_by8]) hge hmx h3
    rw [hcells] at this
    exact this
  rcases hcase with ⟨rfl, rfl, hs'⟩ | ⟨b, sp, cap, rfl, hle, hcm, hlen, hs'⟩
  · have hcs : cs = [] := by simpa using h0
    subst hcs
    by_cases hm : bs = []
    · subst hm
      refine ⟨.slice none 0 0, w, ?_, by simpa [by8] using hs⟩
      simp [Builtin.append_, run_underlying' ht, run_underlying' hu, sizeOf, typeInfo, hi, Builtin.lenOf, Builtin.firstCells, hsz]
    · have hpos : 0 < bs.length := List.length_pos_iff.2 hm
      have hrun := run_append_nil_string (P := P) w t u ty e i (.int .u8 0) ht hu hi hz ⟨bs.toArray⟩ (by rw [hsz]; exact hpos) (by rw [hsz]; omega) (by rw [hsz, hbytes]; omega)
      rw [hsz] at hrun
      have hg := grown 0 hs'
      rw [Nat.zero_add] at hg ⊢
      refine ⟨_, _, hrun, ?_⟩
      have e1 : (⟨bs.toArray⟩ : ByteArray).data.map (fun b => Value.int .u8 b.toNat) = (by8 bs).toArray := by apply Array.ext'; simp [by8]
      rw [e1]
      simpa using hg
  · by_cases hfit : n + bs.length ≤ cap
    · have hroom := run_append_room_string (P := P) w t u ty e i ht hu hi hsize b n cap (cs ++ sp).toArray hs'.pt_heap ⟨bs.toArray⟩ (by rw [hsz]; exact hfit) (by
        rw [hsz]; simp only [List.size_toArray, List.length_append]; omega)
      refine ⟨_, _, hroom, ?_⟩
      rw [hsz, strCells_by8]
      have e1 : (cs ++ sp).take n = cs := by rw [← Nat.mul_one n, ← h0]; simp
      have e2 : (cs ++ sp).drop (n + bs.length) = sp.drop bs.length := by rw [← Nat.mul_one n, ← h0]; simp
      rw [e1, e2]
      have hb1 := hs'.pt_heap
      have hs3 : Sat (w.setRow b (cs ++ by8 bs ++ sp.drop bs.length).toArray) (pt b (.cells (cs ++ by8 bs ++ sp.drop bs.length).toArray e (0, 0)) :: L) := by
        refine hs'.grown rfl rfl rfl (fun k hk hne => ?_) ?_
        · simp [World.setRow, Array.getElem?_modify, Ne.symm hne]
        · simp [World.setRow, Array.getElem?_modify, hb1]
      refine Sat.own_block hs3 ?_ hfit hcm ?_
      · simp [h0, length_by8]
      · simp only [List.length_append, List.length_drop, length_by8]
        omega
    · have hgrow := run_append_grow_string (P := P) w t u ty e i (.int .u8 0) ht hu hi hz ⟨b, 0, none⟩ n cap cs (by rw [hsize]; exact h0) (fun j x hj => by
        rw [addr_add, Nat.zero_add]
        exact cell_of hs'.pt_heap (by rw [List.getElem?_append_left (List.getElem?_eq_some_iff.1 hj).1]; exact hj)) ⟨bs.toArray⟩ (by rw [hsz]; omega) (by rw [hsz]; omega)
        (by rw [hsz]; exact growslice_fits (by omega) (by rw [hbytes]; omega))
      rw [hsz, strCells_by8] at hgrow
      exact ⟨_, _, hgrow, grown cap hs'.tail⟩
section
variable {P : Program} {N : Nat} {rd : Option Nat} {E : Env} {D : List Deferred} {L M : List HP} {Q : Post} {next : Env → List Deferred → List HP → Prop}
variable {d : Option Nat} {ty : TypeId} {pos : String} {after : Array Edge} {g : Option (Nat × Bool)}
theorem JO_appendS {x y : Operand} {t u e n : Nat} [TU P t (.slice e)] [TU P u .string] [TI P e (.int .u8 0) 1 1] {v : Value} {cs : List Value} (bs : List UInt8) (hx : ev E x = some v) (hy : ev E y = some (str bs)) [ho : TkO v L e 1 n cs M] (hb : n + bs.length ≤ 140737488355328)
    (hd : dok N d = true) (h : ∀ v', v'.oneCell' = true → next (put E d v') D (OwnS e 1 v' (n + bs.length) (cs ++ by8 bs) :: M)) : JO P N rd ⟨d, .call ⟨.builtin .append, #[x, y], #[t, u]⟩, ty, pos, after, g⟩ E D L next Q :=
  JO_value (fun c => by simp) hd fun F a w hr hs => by
    have hs1 : Sat w (OwnS e 1 v n cs :: F :: M) := (hs.perm (ho.h.cons F)).swap
    obtain ⟨v', w', h2, h3⟩ := sat_appendS (P := P) (t := t) (u := u) (ty := ty) TU.h TU.h bs hs1 hb
    exact ⟨v', w', _, by simp [execOp, resolve, invoke, builtin, hr.eval hx, hr.eval hy, h2], h3.swap, h v' (h3.out fun _ hk => own_one hk)⟩
end
end Go.Sp
