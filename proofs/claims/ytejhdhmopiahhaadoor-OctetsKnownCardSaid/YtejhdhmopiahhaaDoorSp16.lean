/- Regions that draw their order, read, and call functions that leave what they read: one order of them is as good as all. -/
import Derived.Test.YtejhdhmopiahhaaDoorSp15
namespace Go.Sp
open Go.RowKit
section
variable {P : Program} {N : Nat} {E : Env} {D : List Deferred} {L L0 : List HP} {Q : Post}
variable (P N) in
/-- From a world that holds L; what the operations that only read look at is L0, which stays. -/
def JG (ops : Array Oper) (fuel : Nat) (ls : List Bool) (E : Env) (D : List Deferred) (L L0 : List HP) (Q : Post) : Prop :=
  ∀ (F : HP) (a : Act) (w : World), Rep N E D a → Sat w (F :: L) → wpAnyH P .any ops (lift N F Q) (fun w => Sat w (F :: L0)) fuel ls.toArray a w
theorem J_regionG [Mixed P] {id : Nat} {ops : Array Oper} (h : JG P N ops (cnt ops.toList) (flags ops.toList) E D L L Q) : J P N none (.region id ops true) E D L Q := fun F a w hr hs => by
  refine (wpIn_wide (n := 0)).2 (wp_region_held (S := fun w => Sat w (F :: L)) Mixed.h ?_)
  have := h F a { w with drawn := w.drawn + 1 } hr (hs.world rfl)
  rw [flags_eq, cnt_eq, List.toArray_replicate, Array.length_toList] at this
  exact this
theorem JG_take [hc : CalmQ Q] {ops : Array Oper} {fuel : Nat} {ls : List Bool} (i : Nat) {o : Oper} {v : Value} (ho : ops.toList[i]? = some o) (hg : o.guard = none) (hs : Region.noSelect ops = true) (hf : Region.free .any ops ls.toArray i = true)
    (hr : (Region.ready .any ops ls.toArray).contains i = true) (hd : dok N o.dst = true) (hl : Ent L L0) (hq : JQ P N o E D L0 v) (h : JG P N ops fuel (ls.set i true) (put E o.dst v) D L L0 Q) : JG P N ops (fuel + 1) ls E D L L0 Q := by
  intro F a w hrep hsat
  rw [Array.getElem?_toList] at ho
  refine wpAnyH_take (v := v) ho hs hf hr ?_ (.inl ⟨by simp [Region.wanted, hg], fun w hw => hq F a hrep w hw⟩) (hl F w hsat) ?_
  · rintro c a' w' ⟨E', D', L', q, _⟩
    exact absurd q (hc.h c E' D' L')
  · have := h F (a.put o.dst v) w (hrep.put hd v) hsat
    rw [List.setIfInBounds_toArray]
    exact this
/-- Guarded, and wanted. -/
theorem JG_takeW [hc : CalmQ Q] {ops : Array Oper} {fuel : Nat} {ls : List Bool} (i : Nat) {o : Oper} {v : Value} {j : Nat} {want : Bool} (ho : ops.toList[i]? = some o) (hg : o.guard = some (j, want)) (hv : gval ops E j = some want) (hs : Region.noSelect ops = true) (hf : Region.free .any ops ls.toArray i = true)
    (hr : (Region.ready .any ops ls.toArray).contains i = true) (hd : dok N o.dst = true) (hl : Ent L L0) (hq : JQ P N o E D L0 v) (h : JG P N ops fuel (ls.set i true) (put E o.dst v) D L L0 Q) : JG P N ops (fuel + 1) ls E D L L0 Q := by
  intro F a w hrep hsat
  rw [Array.getElem?_toList] at ho
  refine wpAnyH_take (v := v) ho hs hf hr ?_ (.inl ⟨by simp [Region.wanted, hg, yielded_of hrep hv], fun w hw => hq F a hrep w hw⟩) (hl F w hsat) ?_
  · rintro c a' w' ⟨E', D', L', q, _⟩
    exact absurd q (hc.h c E' D' L')
  · have := h F (a.put o.dst v) w (hrep.put hd v) hsat
    rw [List.setIfInBounds_toArray]
    exact this
theorem gnone_of {all : Array Oper} {a : Act} {j : Nat} (hr : Rep N E D a) (hv : gnone all E j = true) : yielded all a.tmps j = none := by
  unfold gnone at hv
  split at hv
  · rename_i o' ho
    split at hv
    · rename_i d' hd'
      split at hv
      · rename_i vs hb
        have := hr.2.2 d' _ hb
        simp [yielded, ho, hd', this]
      · cases hv
    · cases hv
  · cases hv
theorem JG_passA [hc : CalmQ Q] {ops : Array Oper} {fuel : Nat} {ls : List Bool} (i : Nat) {o : Oper} (ho : ops.toList[i]? = some o) (hw : ∀ a, Rep N E D a → Region.wanted o (yielded ops a.tmps) = false) (hs : Region.noSelect ops = true) (hf : Region.free .any ops ls.toArray i = true)
    (hr : (Region.ready .any ops ls.toArray).contains i = true) (hd : dok N o.dst = true) (hl : Ent L L0) (h : JG P N ops fuel (ls.set i true) (put E o.dst undef) D L L0 Q) : JG P N ops (fuel + 1) ls E D L L0 Q := by
  intro F a w hrep hsat
  rw [Array.getElem?_toList] at ho
  refine wpAnyH_take (v := undef) ho hs hf hr ?_ (.inr ⟨hw a hrep, rfl⟩) (hl F w hsat) ?_
  · rintro c a' w' ⟨E', D', L', q, _⟩
    exact absurd q (hc.h c E' D' L')
  · have := h F (a.put o.dst undef) w (hrep.put hd undef) hsat
    rw [List.setIfInBounds_toArray]
    exact this
/-- Guarded, and passed over. -/
theorem JG_pass [hc : CalmQ Q] {ops : Array Oper} {fuel : Nat} {ls : List Bool} (i : Nat) {o : Oper} {j : Nat} {want : Bool} (ho : ops.toList[i]? = some o) (hg : o.guard = some (j, want)) (hv : gval ops E j = some (!want)) (hs : Region.noSelect ops = true) (hf : Region.free .any ops ls.toArray i = true)
    (hr : (Region.ready .any ops ls.toArray).contains i = true) (hd : dok N o.dst = true) (hl : Ent L L0) (h : JG P N ops fuel (ls.set i true) (put E o.dst undef) D L L0 Q) : JG P N ops (fuel + 1) ls E D L L0 Q :=
  JG_passA i ho (fun a hrep => by simp only [Region.wanted, hg, yielded_of hrep hv]; cases want <;> rfl) hs hf hr hd hl h
theorem JG_passN [hc : CalmQ Q] {ops : Array Oper} {fuel : Nat} {ls : List Bool} (i : Nat) {o : Oper} {j : Nat} {want : Bool} (ho : ops.toList[i]? = some o) (hg : o.guard = some (j, want)) (hv : gnone ops E j = true) (hs : Region.noSelect ops = true) (hf : Region.free .any ops ls.toArray i = true)
    (hr : (Region.ready .any ops ls.toArray).contains i = true) (hd : dok N o.dst = true) (hl : Ent L L0) (h : JG P N ops fuel (ls.set i true) (put E o.dst undef) D L L0 Q) : JG P N ops (fuel + 1) ls E D L L0 Q :=
  JG_passA i ho (fun a hrep => by simp only [Region.wanted, hg, gnone_of hrep hv]; cases want <;> rfl) hs hf hr hd hl h
theorem JG_split {ops : Array Oper} {fuel : Nat} {ls : List Bool} {b : Bool} (d : Nat) (hb : Env.get E d = some (.bool b)) (h1 : b = true → JG P N ops fuel ls ((d, .bool true) :: E) D L L0 Q) (h2 : b = false → JG P N ops fuel ls ((d, .bool false) :: E) D L L0 Q) : JG P N ops fuel ls E D L L0 Q := by
  intro F a w hr hs
  cases b with
  | true => exact h1 rfl F a w (hr.sub (sub_cons hb (Sub.refl _))) hs
  | false => exact h2 rfl F a w (hr.sub (sub_cons hb (Sub.refl _))) hs
theorem JG_end {ops : Array Oper} {fuel : Nat} {ls : List Bool} (hr : Region.ready .any ops ls.toArray = []) (h : Q .normal E D L) : JG P N ops fuel ls E D L L0 Q :=
  fun F a w hrep hsat => wpAnyH_done hr ⟨E, D, L, h, hrep, hsat⟩ fuel
theorem JG_heap {ops : Array Oper} {fuel : Nat} {ls : List Bool} {L' : List HP} (hL : Ent L L') (h : JG P N ops fuel ls E D L' L0 Q) : JG P N ops fuel ls E D L L0 Q := fun F a w hr hs => h F a w hr (hL F w hs)
theorem JG_view {ops : Array Oper} {fuel : Nat} {ls : List Bool} {e sz : Nat} {v : Value} {n : Nat} {cs : List Value} (h : ∀ p cap, v = .slice p n cap → JG P N ops fuel ls E D (Vw sz (.slice p n cap) n cs :: L) L0 Q) : JG P N ops fuel ls E D (OwnS e sz v n cs :: L) L0 Q := by
  intro F a w hr hs
  obtain ⟨p, cap, h1, h2⟩ := hs.swap.own_view
  exact h p cap h1 F a w hr h2.swap
/-- The one that may come up now, a call. -/
theorem JG_enter {ops : Array Oper} {fuel : Nat} {ls : List Bool} (i : Nat) {o : Oper} {f : FuncId} {args : Array Value} {R : Ending → List HP → Prop} (ho : ops.toList[i]? = some o) (hw : ∀ a, Rep N E D a → Region.wanted o (yielded ops a.tmps) = true) (hr : Region.ready .any ops ls.toArray = [i])
    (hd : dok N o.dst = true) (he : ∀ (a : Act) (w : World), Rep N E D a → (execOp a.eval o).run P w = .ok (.enter f args) w) (hc : Ct P f args L R)
    (hv : ∀ v L', R (.returned v) L' → Ent L' L0 ∧ JG P N ops fuel (ls.set i true) (put E o.dst v) D L' L0 Q) (hp : ∀ ch L', R (.panicked ch) L' → Q (.panic ch) E D L') : JG P N ops (fuel + 1) ls E D L L0 Q := by
  intro F a w hrep hsat
  rw [Array.getElem?_toList] at ho
  refine wpAnyH_all hr (by simp) fun k hk => ?_
  simp only [List.mem_singleton] at hk
  subst hk
  simp only [wpOp, ho, hw a hrep, if_true]
  refine .inl ?_
  unfold Oper.wp
  rw [he a w hrep]
  refine (hc F w hsat).mono ?_
  rintro e w' ⟨hne, L', hR, hs'⟩
  cases e with
  | returned v =>
    obtain ⟨h1, h2⟩ := hv v L' hR
    refine ⟨h1 F w' hs', ?_⟩
    rw [List.setIfInBounds_toArray]
    exact h2 F _ w' (hrep.put hd v) hs'
  | panicked ch => exact ⟨E, D, L', hp ch L' hR, hrep, hs'⟩
  | outgrown => exact absurd rfl hne
section
variable {d : Option Nat} {ty : TypeId} {pos : String} {after : Array Edge} {g : Option (Nat × Bool)}
theorem JQ_not {x : Operand} {t : TypeId} {b : Bool} (hx : ev E x = some (.bool b)) : JQ P N ⟨d, .unOp .not t x, ty, pos, after, g⟩ E D L (.bool (!b)) := fun F a hr w hs => by simp [execOp, hr.eval hx, Op.unary]
theorem JQ_notP {x : Operand} {t : TypeId} {p : Prop} {_ : Decidable p} (hx : ev E x = some (.bool (decide p))) : JQ P N ⟨d, .unOp .not t x, ty, pos, after, g⟩ E D L (.bool (decide (¬ p))) := fun F a hr w hs => by simp [execOp, hr.eval hx, Op.unary]
theorem JQ_pickT {c x y : Operand} {v : Value} (hc : ev E c = some (.bool true)) (hx : ev E x = some v) : JQ P N ⟨d, .pick c x y, ty, pos, after, g⟩ E D L v := fun F a hr w hs => by simp [execOp, hr.eval hc, hr.eval hx, asBool]
theorem JQ_pickF {c x y : Operand} {v : Value} (hc : ev E c = some (.bool false)) (hx : ev E y = some v) : JQ P N ⟨d, .pick c x y, ty, pos, after, g⟩ E D L v := fun F a hr w hs => by simp [execOp, hr.eval hc, hr.eval hx, asBool]
theorem JQ_loadA {t n : TypeId} [TA P t n] {x : Operand} {b o : Nat} (cs : List Value) (hx : ev E x = some (.pointer (some ⟨b, o, none⟩))) (hl : ∀ i u, cs[i]? = some u → Lds L ⟨b, o + i, none⟩ u) (hn : cs.length = n) : JQ P N ⟨d, .load t x, ty, pos, after, g⟩ E D L (.agg cs.toArray) := fun F a hr w hs => by
  obtain ⟨_, i, hi, hsz⟩ := TA.h (P := P) (t := t) (n := n)
  have := run_loadCells_list (P := P) (w := w) ⟨b, o, none⟩ cs (fun j v hj => by rw [addr_add]; exact hl j v hj F w hs)
  rw [hn] at this
  simp [execOp, Instr.loadAt, Instr.sureAddr, hr.eval hx, loadVar, run_isAggA (P := P) (t := t) (n := n), run_sizeOf' hi, hsz, this]
theorem lds_vwA {n cap b o j sz i : Nat} {cs : List Value} {u : Value} [hv : HV L (.slice (some ⟨b, o, none⟩) n cap) sz n cs] (hj : j < n) (hu : cs[j * sz + i]? = some u) : Lds L ⟨b, o + j * sz + i, none⟩ u := fun F' w' hs' => by
  obtain ⟨M', hM'⟩ := hv.h F' w' hs'
  obtain ⟨kk', ⟨_, _, _, hle', _, hV', _⟩, m'⟩ := hM'
  obtain ⟨_, _, p'', cap'', h2', h3'⟩ := hV'
  cases h2'
  obtain ⟨b', o', all', e'', fz', hb', h5', h6'⟩ := h3'.resolve_left (by omega)
  cases hb'
  have := cell_of (at_obj (m' _ _ (hle' _ _ h5'))) (h6' _ _ hu)
  rw [Nat.add_assoc]
  exact this
theorem vw_place {sz n cap : Nat} {p : Option Addr} {cs : List Value} (hn : 0 < n) (k : Part) (h : Vw sz (.slice p n cap) n cs k) : ∃ b o, p = some ⟨b, o, none⟩ := by
  obtain ⟨_, _, p', cap', h2, h3⟩ := h
  cases h2
  obtain ⟨b, o, _, _, _, h4, _⟩ := h3.resolve_left (by omega)
  exact ⟨b, o, h4⟩
theorem want_none {ops : Array Oper} {o : Oper} (hg : o.guard = none) : ∀ a : Act, Rep N E D a → Region.wanted o (yielded ops a.tmps) = true := fun _ _ => by simp [Region.wanted, hg]
theorem want_some {ops : Array Oper} {o : Oper} {j : Nat} {want : Bool} (hg : o.guard = some (j, want)) (hv : gval ops E j = some want) : ∀ a : Act, Rep N E D a → Region.wanted o (yielded ops a.tmps) = true := fun _ hr => by simp [Region.wanted, hg, yielded_of hr hv]
theorem enter_fn {f : FuncId} [hf : CF P f] {args : Array Operand} {ts : Array TypeId} {vs : List Value} (hx : evs E args.toList = some vs) (a : Act) (w : World) (hr : Rep N E D a) :
    (execOp a.eval ⟨d, .call ⟨.value (.func f), args, ts⟩, ty, pos, after, g⟩).run P w = .ok (.enter f vs.toArray) w := by
  have e : args.map a.eval = vs.toArray := by rw [← hr.evals hx]; apply Array.ext'; simp
  simp [execOp, resolve, e, Act.eval, Deferred.ofValue, invoke, hf.h]
theorem JG_callVP {v : Value} {K M L1 R0 : List HP} {f : FuncId} [hf : CF P f] {args : Array Operand} {ts : Array TypeId} {vs : List Value} {ops : Array Oper} {fuel : Nat} {ls : List Bool} (i : Nat)
    (ho : ops.toList[i]? = some ⟨d, .call ⟨.value (.func f), args, ts⟩, ty, pos, after, g⟩) (hw : ∀ a, Rep N E D a → Region.wanted ⟨d, .call ⟨.value (.func f), args, ts⟩, ty, pos, after, g⟩ (yielded ops a.tmps) = true) (hr : Region.ready .any ops ls.toArray = [i])
    (hx : evs E args.toList = some vs) (hc : Ct P f vs.toArray K (RetV v R0)) [hs : Sel K L M] [hp : PersK K] [ha : AppH R0 L L1] (hd : dok N d = true) (hl : Ent L1 L0) (h : JG P N ops fuel (ls.set i true) (put E d v) D L1 L0 Q) : JG P N ops (fuel + 1) ls E D L L0 Q :=
  JG_enter i ho hw hr hd (fun a w hr => enter_fn hx a w hr) hc.useP (fun _ _ ⟨_, ⟨he, hL⟩, hL'⟩ => by cases he; rw [hL', hL, ha.h]; exact ⟨hl, h⟩) (fun _ _ ⟨_, ⟨he, _⟩, _⟩ => by cases he)
theorem JG_callEP {α : Type} {φ : α → Prop} {v : α → Value} {K M : List HP} {R0 L1 : α → List HP} {f : FuncId} [hf : CF P f] {args : Array Operand} {ts : Array TypeId} {vs : List Value} {ops : Array Oper} {fuel : Nat} {ls : List Bool} (i : Nat)
    (ho : ops.toList[i]? = some ⟨d, .call ⟨.value (.func f), args, ts⟩, ty, pos, after, g⟩) (hw : ∀ a, Rep N E D a → Region.wanted ⟨d, .call ⟨.value (.func f), args, ts⟩, ty, pos, after, g⟩ (yielded ops a.tmps) = true) (hr : Region.ready .any ops ls.toArray = [i])
    (hx : evs E args.toList = some vs) (hc : Ct P f vs.toArray K (RetE φ v R0)) [hs : Sel K L M] [hp : PersK K] [ha : ∀ x, AppH (R0 x) L (L1 x)] (hd : dok N d = true) (h : ∀ x, φ x → Ent (L1 x) L0 ∧ JG P N ops fuel (ls.set i true) (put E d (v x)) D (L1 x) L0 Q) : JG P N ops (fuel + 1) ls E D L L0 Q :=
  JG_enter i ho hw hr hd (fun a w hr => enter_fn hx a w hr) hc.useP (fun _ _ ⟨_, ⟨x, hφ, he, hL⟩, hL'⟩ => by cases he; rw [hL', hL, (ha x).h]; exact h x hφ) (fun _ _ ⟨_, ⟨_, _, he, _⟩, _⟩ => by cases he)
end
end
end Go.Sp
