/- Drawn regions: the next one that only reads, found by reckoning; more operations that only read. -/
import Derived.Test.YtejhdhmopiahhaaDoorSp18
namespace Go.Sp
open Go.RowKit
def quietO (o : Oper) : Bool := match o.op with | .call ⟨.value _, _, _⟩ => false | .store _ _ _ => false | .mapUpdate _ _ _ _ => false | .insert _ _ _ _ => false | _ => true
def findQ (ops : Array Oper) (ls : List Bool) : List Nat → Option Nat
  | [] => none
  | i :: r => match rdy ops ls i with
    | true => match ops.toList[i]? with
      | some o => match quietO o with | true => some i | false => findQ ops ls r
      | none => findQ ops ls r
    | false => findQ ops ls r
theorem findQ_rdy {ops : Array Oper} {ls : List Bool} {i : Nat} : ∀ {l : List Nat}, findQ ops ls l = some i → i ∈ l ∧ rdy ops ls i = true := by
  intro l
  induction l with
  | nil => intro h; cases h
  | cons j r ih =>
    intro h
    have keep : findQ ops ls r = some i → i ∈ j :: r ∧ rdy ops ls i = true := fun h => ⟨List.mem_cons_of_mem _ (ih h).1, (ih h).2⟩
    simp only [findQ] at h
    split at h
    · rename_i hr
      split at h
      · split at h
        · cases h; exact ⟨by simp, hr⟩
        · exact keep h
      · exact keep h
    · exact keep h
theorem findQ_ready {ops : Array Oper} {ls : List Bool} {i : Nat} (h : findQ ops ls (idxs ops.toList 0) = some i) : (Region.ready .any ops ls.toArray).contains i = true := by
  obtain ⟨h1, h2⟩ := findQ_rdy h
  rw [← idxs_range] at h1
  rw [rdy_eq]
  simpa using ⟨by simpa using h1, h2⟩
instance calm_cutQ (E' : Env) (D' : List Deferred) (L' : List HP) (Q : Post) [h : CalmQ Q] : CalmQ (cutQ E' D' L' Q) := ⟨fun ch E D L q => h.h ch E D L q⟩
instance calm_cutX {α : Sort _} (E' : α → Env) (D' : List Deferred) (L' : α → List HP) (Q : Post) [h : CalmQ Q] : CalmQ (cutX E' D' L' Q) := ⟨fun ch E D L q => h.h ch E D L q⟩
section
variable {P : Program} {N : Nat} {E : Env} {D : List Deferred} {L L0 : List HP} {Q : Post}
theorem JG_n [CalmQ Q] {ops : Array Oper} {fuel : Nat} {ls : List Bool} {i : Nat} {o : Oper} {v : Value} (hn : findQ ops ls (idxs ops.toList 0) = some i) (ho : ops.toList[i]? = some o) (hg : o.guard = none) (hs : Region.noSelect ops = true) (hf : Region.free .any ops ls.toArray i = true)
    (hd : dok N o.dst = true) (hl : Ent L L0) (hq : JQ P N o E D L0 v) (h : JG P N ops fuel (ls.set i true) (put E o.dst v) D L L0 Q) : JG P N ops (fuel + 1) ls E D L L0 Q := JG_take i ho hg hs hf (findQ_ready hn) hd hl hq h
theorem JG_nW [CalmQ Q] {ops : Array Oper} {fuel : Nat} {ls : List Bool} {i : Nat} {o : Oper} {v : Value} {j : Nat} {want : Bool} (hn : findQ ops ls (idxs ops.toList 0) = some i) (ho : ops.toList[i]? = some o) (hg : o.guard = some (j, want)) (hv : gval ops E j = some want) (hs : Region.noSelect ops = true) (hf : Region.free .any ops ls.toArray i = true)
    (hd : dok N o.dst = true) (hl : Ent L L0) (hq : JQ P N o E D L0 v) (h : JG P N ops fuel (ls.set i true) (put E o.dst v) D L L0 Q) : JG P N ops (fuel + 1) ls E D L L0 Q := JG_takeW i ho hg hv hs hf (findQ_ready hn) hd hl hq h
theorem JG_nP [CalmQ Q] {ops : Array Oper} {fuel : Nat} {ls : List Bool} {i : Nat} {o : Oper} {j : Nat} {want : Bool} (hn : findQ ops ls (idxs ops.toList 0) = some i) (ho : ops.toList[i]? = some o) (hg : o.guard = some (j, want)) (hv : gval ops E j = some (!want)) (hs : Region.noSelect ops = true) (hf : Region.free .any ops ls.toArray i = true)
    (hd : dok N o.dst = true) (hl : Ent L L0) (h : JG P N ops fuel (ls.set i true) (put E o.dst undef) D L L0 Q) : JG P N ops (fuel + 1) ls E D L L0 Q := JG_pass i ho hg hv hs hf (findQ_ready hn) hd hl h
theorem JG_nN [CalmQ Q] {ops : Array Oper} {fuel : Nat} {ls : List Bool} {i : Nat} {o : Oper} {j : Nat} {want : Bool} (hn : findQ ops ls (idxs ops.toList 0) = some i) (ho : ops.toList[i]? = some o) (hg : o.guard = some (j, want)) (hv : gnone ops E j = true) (hs : Region.noSelect ops = true) (hf : Region.free .any ops ls.toArray i = true)
    (hd : dok N o.dst = true) (hl : Ent L L0) (h : JG P N ops fuel (ls.set i true) (put E o.dst undef) D L L0 Q) : JG P N ops (fuel + 1) ls E D L L0 Q := JG_passN i ho hg hv hs hf (findQ_ready hn) hd hl h
theorem JG_fin {ops : Array Oper} {fuel : Nat} {ls : List Bool} (hr : orL (rdy ops ls) (idxs ops.toList 0) = false) (h : Q .normal E D L) : JG P N ops fuel ls E D L L0 Q := by
  refine JG_end ?_ h
  rw [orL_eq, ← idxs_range] at hr
  rw [rdy_eq, List.filter_eq_nil_iff]
  intro i hi hr'
  rw [List.any_eq_false] at hr
  exact hr i hi hr'
theorem J_regionGS [Mixed P] (L0 : List HP) {id : Nat} {ops : Array Oper} (h : JG P N ops (cnt ops.toList) (flags ops.toList) E D L L0 Q) : J P N none (.region id ops true) E D L Q := fun F a w hr hs => by
  refine (wpIn_wide (n := 0)).2 (wp_region_held (S := fun w => Sat w (F :: L0)) Mixed.h ?_)
  have := h F a { w with drawn := w.drawn + 1 } hr (hs.world rfl)
  rw [flags_eq, cnt_eq, List.toArray_replicate, Array.length_toList] at this
  exact this
theorem run_then_skip {P : Program} (s : Sem Unit) (w w' : World) (n : Next) (h : (do s; pure Next.skip : Sem Next).run P w = .ok n w') : n = .skip := by
  rw [Sem.run_bind] at h
  cases hr : s.run P w with
  | ok u w1 => rw [hr] at h; simp only [Result.andThen_ok, Sem.run_pure, Result.ok.injEq] at h; exact h.1.symm
  | halt x w1 => rw [hr] at h; cases h
/-- A store, where it is the one that may come up now. -/
theorem JG_store {ops : Array Oper} {fuel : Nat} {ls : List Bool} (i : Nat) {d : Option Nat} {ty : TypeId} {pos : String} {after : Array Edge} {t : TypeId} {x y : Operand} (ho : ops.toList[i]? = some ⟨d, .store t x y, ty, pos, after, none⟩) (hr : Region.ready .any ops ls.toArray = [i])
    (h : JO P N none ⟨d, .store t x y, ty, pos, after, none⟩ E D L (fun E' D' L' => Ent L' L0 ∧ JG P N ops fuel (ls.set i true) E' D' L' L0 Q) Q) : JG P N ops (fuel + 1) ls E D L L0 Q := by
  intro F a w hrep hsat
  rw [Array.getElem?_toList] at ho
  refine wpAnyH_all hr (by simp) fun k hk => ?_
  simp only [List.mem_singleton] at hk
  subst hk
  simp only [wpOp, ho, Region.wanted, if_true]
  refine .inl ?_
  have h1 := (h F a w hrep hsat (fun a' w' => Sat w' (F :: L0) ∧ wpAnyH P .any ops (lift N F Q) (fun w => Sat w (F :: L0)) fuel (ls.toArray.setIfInBounds k true) a' w') (fun E' D' L' a' w' hn hr' hs' => ⟨hn.1 F w' hs', by
    rw [List.setIfInBounds_toArray]
    exact hn.2 F a' w' hr' hs'⟩)).2
  unfold Oper.wp
  change Oper.uponIn (FW none) 0 P _ a _ (lift N F Q) ((execOp a.eval ⟨d, .store t x y, ty, pos, after, none⟩).run P w) at h1
  cases hres : (execOp a.eval ⟨d, .store t x y, ty, pos, after, none⟩).run P w with
  | ok n w' =>
    have hn : n = .skip := run_then_skip _ _ _ _ hres
    subst hn
    rw [hres] at h1
    exact h1
  | halt z w' =>
    rw [hres] at h1
    cases z <;> first | exact h1 | exact h1.elim
theorem JG_splitP {ops : Array Oper} {fuel : Nat} {ls : List Bool} {p : Prop} {_ : Decidable p} (d : Nat) (hb : Env.get E d = some (.bool (decide p))) (h1 : p → JG P N ops fuel ls ((d, .bool true) :: E) D L L0 Q) (h2 : ¬ p → JG P N ops fuel ls ((d, .bool false) :: E) D L L0 Q) : JG P N ops fuel ls E D L L0 Q :=
  JG_split d hb (fun h => h1 (of_decide_eq_true h)) (fun h => h2 (of_decide_eq_false h))
/-- A guard that is neither true nor false yet. -/
theorem JG_askP {ops : Array Oper} {fuel : Nat} {ls : List Bool} {i : Nat} {o : Oper} {j : Nat} {want : Bool} {d : Nat} {p : Prop} {_ : Decidable p} (_ : findQ ops ls (idxs ops.toList 0) = some i) (_ : ops.toList[i]? = some o) (_ : o.guard = some (j, want)) (_ : gslot ops j = some d) (hb : Env.get E d = some (.bool (decide p)))
    (h1 : p → JG P N ops fuel ls ((d, .bool true) :: E) D L L0 Q) (h2 : ¬ p → JG P N ops fuel ls ((d, .bool false) :: E) D L L0 Q) : JG P N ops fuel ls E D L L0 Q := JG_splitP d hb h1 h2
section
variable {d : Option Nat} {ty : TypeId} {pos : String} {after : Array Edge} {g : Option (Nat × Bool)}
section ints
variable {x y : Operand} {m n : Int} {k : IntKind} {t u : TypeId}
theorem JQ_lss (hx : ev E x = some (.int k m)) (hy : ev E y = some (.int k n)) : JQ P N ⟨d, .binOp .lss t x y u, ty, pos, after, g⟩ E D L (.bool (decide (m < n))) := fun F a hr w hs => by simp [execOp, hr.eval hx, hr.eval hy, eqGuard, binOp, Op.intCmp]
theorem JQ_leq (hx : ev E x = some (.int k m)) (hy : ev E y = some (.int k n)) : JQ P N ⟨d, .binOp .leq t x y u, ty, pos, after, g⟩ E D L (.bool (decide (m ≤ n))) := fun F a hr w hs => by simp [execOp, hr.eval hx, hr.eval hy, eqGuard, binOp, Op.intCmp]
theorem JQ_gtr (hx : ev E x = some (.int k m)) (hy : ev E y = some (.int k n)) : JQ P N ⟨d, .binOp .gtr t x y u, ty, pos, after, g⟩ E D L (.bool (decide (n < m))) := fun F a hr w hs => by simp [execOp, hr.eval hx, hr.eval hy, eqGuard, binOp, Op.intCmp]
theorem JQ_geq (hx : ev E x = some (.int k m)) (hy : ev E y = some (.int k n)) : JQ P N ⟨d, .binOp .geq t x y u, ty, pos, after, g⟩ E D L (.bool (decide (n ≤ m))) := fun F a hr w hs => by simp [execOp, hr.eval hx, hr.eval hy, eqGuard, binOp, Op.intCmp]
theorem JQ_sub (hx : ev E x = some (.int .i64 m)) (hy : ev E y = some (.int .i64 n)) (hb : -9223372036854775808 ≤ m - n ∧ m - n ≤ 9223372036854775807) : JQ P N ⟨d, .binOp .sub t x y u, ty, pos, after, g⟩ E D L (.int .i64 (m - n)) := fun F a hr w hs => by
  simp [execOp, hr.eval hx, hr.eval hy, eqGuard, binOp, Op.intArith, wrap_in hb]
theorem JQ_add (hx : ev E x = some (.int .i64 m)) (hy : ev E y = some (.int .i64 n)) (hb : -9223372036854775808 ≤ m + n ∧ m + n ≤ 9223372036854775807) : JQ P N ⟨d, .binOp .add t x y u, ty, pos, after, g⟩ E D L (.int .i64 (m + n)) := fun F a hr w hs => by
  simp [execOp, hr.eval hx, hr.eval hy, eqGuard, binOp, Op.intArith, wrap_in hb]
end ints
theorem JQ_assign {x : Operand} {v : Value} (hx : ev E x = some v) : JQ P N ⟨d, .assign x, ty, pos, after, g⟩ E D L v := fun F a hr w hs => by simp [execOp, hr.eval hx]
theorem JQ_build {t : TypeId} {zc : List Value} {n k : Nat} [TI P t (.agg zc.toArray) n k] {pl : List (Nat × Nat)} [TB P t pl] {parts : Array (Nat × Operand)} {vs : List (Nat × Value)} {cs : List Value} (hp : pevs E parts.toList = some vs) (hf : fillL pl zc vs = some cs) :
    JQ P N ⟨d, .build t parts, ty, pos, after, g⟩ E D L (.agg cs.toArray) := fun F a hr w hs => by
  obtain ⟨i, h1, h2, h3, h4⟩ := TI.h (P := P) (t := t) (z := .agg zc.toArray) (n := n) (b := k)
  have hpl := TB.h (P := P) (t := t) (pl := pl)
  unfold placesOf at hpl
  cases hu : P.underlying t with
  | none => simp [hu] at hpl
  | some td =>
    cases td with
    | struct fs =>
      simp only [hu] at hpl
      have h5 := run_places _ _ hpl w
      have h6 := fill_eq pl vs zc cs hf
      have h7 := hr.pevs hp
      have h8 : (fs.mapM fun f => Prod.mk f.offset <$> sizeOf f.type : Sem (Array (Nat × Nat))).run P w = .ok pl.toArray w := by
        rw [Array.mapM_eq_mapM_toList]
        simp only [Sem.run_map, h5]
        rfl
      simp [execOp, Instr.build, run_zeroValue' h1 h2, run_underlying' hu, h8, Value.cells, Array.toList_map, h7, h6]
    | _ => simp [hu] at hpl
theorem JQ_loadB {t : TypeId} [T1 P t] {x : Operand} {b off : Nat} {cs : List Value} {bt : TypeId} {fz : Nat × Nat} {v : Value} (hx : ev E x = some (.pointer (some ⟨b, off, none⟩))) [HB L b (.cells cs.toArray bt fz)] [hg : GetAt cs off v] : JQ P N ⟨d, .load t x, ty, pos, after, g⟩ E D L v := JQ_load hx (lds_block hg.h)
theorem JQ_field0 {s f off ft n : Nat} [TF P s f off ft n] {x : Operand} {b : Nat} (hx : ev E x = some (.pointer (some ⟨b, 0, none⟩))) : JQ P N ⟨d, .fieldAddr s x f, ty, pos, after, g⟩ E D L (.pointer (some ⟨b, off, none⟩)) := by
  have := JQ_field (P := P) (N := N) (E := E) (D := D) (L := L) (d := d) (ty := ty) (pos := pos) (after := after) (g := g) (s := s) (f := f) hx
  rw [Nat.zero_add] at this
  exact this
theorem JQ_index1 {t e : TypeId} [TU P t (.slice e)] {z : Value} {k : Nat} [TI P e z 1 k] {x y : Operand} {b o len cap j : Nat} {ik : IntKind} (hx : ev E x = some (.slice (some ⟨b, o, none⟩) len cap)) (hy : ev E y = some (.int ik (j : Int))) (hj : j < len) :
    JQ P N ⟨d, .indexAddr t x y, ty, pos, after, g⟩ E D L (.pointer (some ⟨b, o + j, none⟩)) := by
  have := JQ_index (P := P) (N := N) (E := E) (D := D) (L := L) (d := d) (ty := ty) (pos := pos) (after := after) (g := g) (t := t) (n := 1) hx hy hj
  rw [Nat.mul_one] at this
  exact this
theorem lds_vw1 {n cap b o j : Nat} {cs : List Value} {u : Value} [hv : HV L (.slice (some ⟨b, o, none⟩) n cap) 1 n cs] (hj : j < n) (hu : cs[j]? = some u) : Lds L ⟨b, o + j, none⟩ u := by
  have := lds_vw (L := L) (n := n) (cap := cap) (b := b) (o := o) hj hu
  rw [Nat.mul_one] at this
  exact this
end
end
end Go.Sp
