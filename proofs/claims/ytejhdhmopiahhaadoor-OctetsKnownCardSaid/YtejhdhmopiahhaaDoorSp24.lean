/- Drawn regions that read, and then store: what is read stays until the m-th operation (the first store) has come up. -/
import Derived.Test.YtejhdhmopiahhaaDoorSp23
namespace Go.Sp
open Go.RowKit
section
variable {P : Program} {ops : Array Oper} {Q : Exit → Act → World → Prop} {md : Region.Mode} {T U : World → Prop} {m : Nat}
def wpAnyM (P : Program) (md : Region.Mode) (ops : Array Oper) (Q : Exit → Act → World → Prop) (m : Nat) (T : World → Prop) : Nat → Array Bool → Act → World → Prop
  | 0, l, a, w => Region.ready md ops l = [] ∧ Q .normal a w
  | fuel + 1, l, a, w => (Region.ready md ops l = [] → Q .normal a w) ∧
    ∀ i ∈ Region.ready md ops l, wpOp P ops Q i (fun a' w' => ((l.setIfInBounds i true).getD m true = false → T w') ∧ wpAnyM P md ops Q m T fuel (l.setIfInBounds i true) a' w') a w
theorem wpAny_of_M : ∀ (fuel : Nat) (l : Array Bool) (a : Act) (w : World), wpAnyM P md ops Q m T fuel l a w → wpAny P md ops Q fuel l a w
  | 0, _, _, _, h => h
  | fuel + 1, _, _, _, h => ⟨h.1, fun i hi => wpOp_mono (fun a' w' h' => wpAny_of_M fuel _ a' w' h'.2) (h.2 i hi)⟩
/-- Where U is known: always; or as long as the m-th has not come up, which waits for i. -/
def Good (md : Region.Mode) (ops : Array Oper) (m i : Nat) (T U : World → Prop) (l : Array Bool) : Prop :=
  (∀ w, U w) ∨ ((∀ w, T w → U w) ∧ l.getD m true = false ∧ ∃ om, ops[m]? = some om ∧ ∃ e ∈ om.after, Region.binds md e = true ∧ e.on = i)
theorem unlisted {i : Nat} {l : Array Bool} (h0 : l.getD i true = false) : l.getD i false = false := by
  rcases Nat.lt_or_ge i l.size with h' | h'
  · simp [h'] at h0 ⊢; exact h0
  · simp [Array.getElem?_eq_none h'] at h0
theorem wpAnyM_first {i : Nat} {oi : Oper} {v : Value} (hi : ops[i]? = some oi) (hsel : ∀ (j : Nat) (o : Oper) cs b, ops[j]? = some o → o.op ≠ .select cs b) (hmi : m ≠ i)
    (hQ : ∀ c a w, Q (.panic c) (a.put oi.dst v) w → Q (.panic c) a w) :
    ∀ (fuel : Nat) (l : Array Bool) (a : Act) (w : World),
      (∀ j oj, ops[j]? = some oj → j ≠ i → l.getD j true = false → (∀ e ∈ oj.after, Region.binds md e = true → e.on ≠ i) → oi.apart ops oj = true) →
      i ∈ Region.ready md ops l → Good md ops m i T U l → YieldsIf P ops U oi v a → U w → (l.getD m true = false → T w) →
      wpAnyM P md ops Q m T fuel (l.setIfInBounds i true) (a.put oi.dst v) w → wpAnyM P md ops Q m T (fuel + 1) l a w := by
  intro fuel
  induction fuel with
  | zero =>
    intro l a w _ hr _ hy hU hT H
    refine ⟨fun h => (by rw [h] at hr; cases hr), fun j hj => ?_⟩
    by_cases hji : j = i
    · subst hji
      exact hy.wpOp hi hU ⟨fun hf => hT (by rw [getD_set_ne true (Ne.symm hmi)] at hf; exact hf), H⟩
    · have := ready_mono hj hji
      rw [H.1] at this
      cases this
  | succ fuel ih =>
    intro l a w hfree hr hgood hy hU hT H
    refine ⟨fun h => (by rw [h] at hr; cases hr), fun j hj => ?_⟩
    by_cases hji : j = i
    · subst hji
      exact hy.wpOp hi hU ⟨fun hf => hT (by rw [getD_set_ne true (Ne.symm hmi)] at hf; exact hf), H⟩
    · have h1 := H.2 j (ready_mono hj hji)
      obtain ⟨hjun, oj, hoj, hall⟩ := mem_ready.1 hj
      have hnot : ∀ e ∈ oj.after, Region.binds md e = true → e.on ≠ i := fun e he hb heq => by
        have h1 := hall e he hb
        rw [heq, unlisted (mem_ready.1 hr).1] at h1
        cases h1
      have h2 := wpOp_putIf hoj (hfree j oj hoj hji hjun hnot) (fun cs b => hsel i oi cs b hi) (fun cs b => hsel j oj cs b hoj) hQ hy h1
      have hfree' : ∀ k ok, ops[k]? = some ok → k ≠ i → (l.setIfInBounds j true).getD k true = false →
          (∀ e ∈ ok.after, Region.binds md e = true → e.on ≠ i) → oi.apart ops ok = true := fun k ok hk hki hun hno => by
        refine hfree k ok hk hki ?_ hno
        by_cases hjk : j = k
        · subst hjk; exact hjun
        · rw [getD_set_ne true hjk] at hun; exact hun
      have hmflag : ((l.setIfInBounds i true).setIfInBounds j true).getD m true = (l.setIfInBounds j true).getD m true := by
        rw [Array.setIfInBounds_comm _ _ (Ne.symm hji), getD_set_ne true (Ne.symm hmi)]
      have hgood' : Good md ops m i T U (l.setIfInBounds j true) ∧ ∀ w', ((l.setIfInBounds j true).getD m true = false → T w') → U w' := by
        rcases hgood with hg | ⟨hg1, hg2, om, hg3, hg4⟩
        · exact ⟨.inl hg, fun w' _ => hg w'⟩
        · have hjm : j ≠ m := by
            intro h
            subst h
            rw [hoj] at hg3
            cases hg3
            obtain ⟨e, he, hb, hon⟩ := hg4
            exact hnot e he hb hon
          have hf : (l.setIfInBounds j true).getD m true = false := by rw [getD_set_ne true hjm]; exact hg2
          exact ⟨.inr ⟨hg1, hf, om, hg3, hg4⟩, fun w' h => hg1 w' (h hf)⟩
      refine wpOp_mono (fun a' w' h3 => ?_) h2
      have hT' : (l.setIfInBounds j true).getD m true = false → T w' := fun hf => h3.2.1 (by rw [hmflag]; exact hf)
      refine ⟨hT', ih (l.setIfInBounds j true) a' w' hfree' (ready_mono hr (Ne.symm hji)) hgood'.1 h3.1 (hgood'.2 w' hT') hT' ?_⟩
      rw [Array.setIfInBounds_comm _ _ hji]
      exact h3.2.2
end
section
variable {P : Program} {N : Nat} {E : Env} {D : List Deferred} {L L0 : List HP} {Q : Post} {m : Nat}
variable (P N) in
def JM (ops : Array Oper) (m : Nat) (fuel : Nat) (ls : List Bool) (E : Env) (D : List Deferred) (L L0 : List HP) (Q : Post) : Prop :=
  ∀ (F : HP) (a : Act) (w : World), Rep N E D a → Sat w (F :: L) → (ls.getD m true = false → Ent L L0) → wpAnyM P .any ops (lift N F Q) m (fun w => Sat w (F :: L0)) fuel ls.toArray a w
variable (P N) in
def JQ0 (o : Oper) (E : Env) (D : List Deferred) (v : Value) : Prop := ∀ a, Rep N E D a → ∀ w, (execOp a.eval o).run P w = .ok (.value v) w
theorem J_regionM [Mixed P] (m : Nat) (L0 : List HP) {id : Nat} {ops : Array Oper} (hl : Ent L L0) (h : JM P N ops m (cnt ops.toList) (flags ops.toList) E D L L0 Q) : J P N none (.region id ops true) E D L Q := fun F a w hr hs => by
  refine (wpIn_wide (n := 0)).2 (wp_region_any Mixed.h (wpAny_of_M (m := m) (T := fun w => Sat w (F :: L0)) _ _ _ _ ?_))
  have := h F a { w with drawn := w.drawn + 1 } hr (hs.world rfl) (fun _ => hl)
  rw [flags_eq, cnt_eq, List.toArray_replicate, Array.length_toList] at this
  exact this
theorem getD_toArray (ls : List Bool) (m : Nat) : ls.toArray.getD m true = ls.getD m true := by simp
theorem JM_n [hc : CalmQ Q] {ops : Array Oper} {fuel : Nat} {ls : List Bool} {i : Nat} {o : Oper} {v : Value} (hn : findQ ops ls (idxs ops.toList 0) = some i) (ho : ops.toList[i]? = some o) (hg : o.guard = none) (hs : Region.noSelect ops = true) (hf : Region.free .any ops ls.toArray i = true)
    (hmi : Nat.beq m i = false) (hm : (match ops.toList[m]? with | some om => depB om i | none => false) = true) (hu : ls.getD m true = false) (hd : dok N o.dst = true) (hl : Ent L L0) (hq : JQ P N o E D L0 v) (h : JM P N ops m fuel (ls.set i true) (put E o.dst v) D L L0 Q) : JM P N ops m (fuel + 1) ls E D L L0 Q := by
  intro F a w hrep hsat _
  have ho' := ho
  rw [Array.getElem?_toList] at ho
  have hmi' : m ≠ i := fun e => by rw [e] at hmi; simp at hmi
  have hready : i ∈ Region.ready .any ops ls.toArray := by simpa using findQ_ready hn
  refine wpAnyM_first (U := fun w => Sat w (F :: L0)) (v := v) ho (Region.noSelect_spec hs) hmi' ?_ fuel ls.toArray a w (Region.free_spec ho hf) hready ?_ (.inl ⟨by simp [Region.wanted, hg], fun w hw => hq F a hrep w hw⟩) (hl F w hsat) (fun _ => hl F w hsat) ?_
  · rintro c a' w' ⟨E', D', L', q, _⟩
    exact absurd q (hc.h c E' D' L')
  · refine .inr ⟨fun _ h => h, by rw [getD_toArray]; exact hu, ?_⟩
    split at hm
    · rename_i om hom
      refine ⟨om, by rw [Array.getElem?_toList] at hom; exact hom, ?_⟩
      unfold depB at hm
      rw [List.any_eq_true] at hm
      obtain ⟨e, he, hb⟩ := hm
      simp only [Bool.and_eq_true] at hb
      exact ⟨e, Array.mem_toList_iff.1 he, hb.1, Nat.eq_of_beq_eq_true hb.2⟩
    · cases hm
  · have := h F (a.put o.dst v) w (hrep.put hd v) hsat (fun _ => hl)
    rw [List.setIfInBounds_toArray]
    exact this
theorem JM_0 [hc : CalmQ Q] {ops : Array Oper} {fuel : Nat} {ls : List Bool} {i : Nat} {o : Oper} {v : Value} (hn : findQ ops ls (idxs ops.toList 0) = some i) (ho : ops.toList[i]? = some o) (hg : o.guard = none) (hs : Region.noSelect ops = true) (hf : Region.free .any ops ls.toArray i = true)
    (hmi : Nat.beq m i = false) (hd : dok N o.dst = true) (hq : JQ0 P N o E D v) (h : JM P N ops m fuel (ls.set i true) (put E o.dst v) D L L0 Q) : JM P N ops m (fuel + 1) ls E D L L0 Q := by
  intro F a w hrep hsat hent
  rw [Array.getElem?_toList] at ho
  have hmi' : m ≠ i := fun e => by rw [e] at hmi; simp at hmi
  have hready : i ∈ Region.ready .any ops ls.toArray := by simpa using findQ_ready hn
  refine wpAnyM_first (U := fun _ => True) (v := v) ho (Region.noSelect_spec hs) hmi' ?_ fuel ls.toArray a w (Region.free_spec ho hf) hready (.inl fun _ => trivial) (.inl ⟨by simp [Region.wanted, hg], fun w _ => hq a hrep w⟩) trivial (fun hu => hent (by rw [getD_toArray] at hu; exact hu) F w hsat) ?_
  · rintro c a' w' ⟨E', D', L', q, _⟩
    exact absurd q (hc.h c E' D' L')
  · have := h F (a.put o.dst v) w (hrep.put hd v) hsat (fun hu => hent (by
      have h1 := getD_set_ne (listed := ls.toArray) (i := i) (j := m) true (Ne.symm hmi')
      rw [List.setIfInBounds_toArray, getD_toArray, getD_toArray] at h1
      rw [← h1]
      exact hu))
    rw [List.setIfInBounds_toArray]
    exact this
theorem run_then_value {P : Program} (s : Sem Value) (w w' : World) (n : Next) (h : (do pure (Next.value (← s)) : Sem Next).run P w = .ok n w') : ∃ v, n = .value v := by
  rw [Sem.run_bind] at h
  cases hr : s.run P w with
  | ok u w1 => rw [hr] at h; simp only [Result.andThen_ok, Sem.run_pure, Result.ok.injEq] at h; exact ⟨u, h.1.symm⟩
  | halt x w1 => rw [hr] at h; cases h
/-- It stores, or yields a value. -/
def Plain (P : Program) (o : Oper) : Prop := ∀ (ρ : Operand → Value) (w w' : World) (n : Next), (execOp ρ o).run P w = .ok n w' → n = .skip ∨ ∃ v, n = .value v
section
variable {d : Option Nat} {ty : TypeId} {pos : String} {after : Array Edge} {g : Option (Nat × Bool)}
theorem plain_store {t : TypeId} {x y : Operand} : Plain P ⟨d, .store t x y, ty, pos, after, g⟩ := fun _ _ _ _ h => .inl (run_then_skip _ _ _ _ h)
theorem plain_box {t : TypeId} {x : Operand} : Plain P ⟨d, .box t x, ty, pos, after, g⟩ := fun _ _ _ _ h => .inr (run_then_value _ _ _ _ h)
theorem plain_alloc {t : TypeId} : Plain P ⟨d, .alloc t, ty, pos, after, g⟩ := fun _ _ _ _ h => .inr (run_then_value _ _ _ _ h)
theorem plain_row {t : TypeId} {n : Nat} {ps : Array (Nat × Operand)} : Plain P ⟨d, .buildSlice t n ps, ty, pos, after, g⟩ := fun _ _ _ _ h => .inr (run_then_value _ _ _ _ h)
theorem JQ0_move {x : Operand} {v : Value} (hx : ev E x = some v) : JQ0 P N ⟨d, .move x, ty, pos, after, g⟩ E D v := fun a hr w => by simp [execOp, hr.eval hx]
theorem JQ0_assign {x : Operand} {v : Value} (hx : ev E x = some v) : JQ0 P N ⟨d, .assign x, ty, pos, after, g⟩ E D v := fun a hr w => by simp [execOp, hr.eval hx]
theorem JQ0_nilCheck {x : Operand} {p : Addr} (hx : ev E x = some (.pointer (some p))) : JQ0 P N ⟨d, .nilCheck x, ty, pos, after, g⟩ E D (.pointer (some p)) := fun a hr w => by simp [execOp, hr.eval hx]
theorem JQ0_add {x y : Operand} {m n : Int} {t u : TypeId} (hx : ev E x = some (.int .i64 m)) (hy : ev E y = some (.int .i64 n)) (hb : -9223372036854775808 ≤ m + n ∧ m + n ≤ 9223372036854775807) : JQ0 P N ⟨d, .binOp .add t x y u, ty, pos, after, g⟩ E D (.int .i64 (m + n)) := fun a hr w => by
  simp [execOp, hr.eval hx, hr.eval hy, eqGuard, binOp, Op.intArith, wrap_in hb]
theorem JQ0_field {s f off ft n : Nat} [TF P s f off ft n] {x : Operand} {b o : Nat} (hx : ev E x = some (.pointer (some ⟨b, o, none⟩))) : JQ0 P N ⟨d, .fieldAddr s x f, ty, pos, after, g⟩ E D (.pointer (some ⟨b, o + off, none⟩)) := fun a hr w => by
  obtain ⟨fs, fl, h1, h2, rfl, rfl, ⟨i, h3, h4⟩, h5⟩ := TF.h (P := P) (s := s) (f := f) (off := off) (ty := ft) (n := n)
  simp [execOp, Instr.fieldAt, hr.eval hx, run_underlying' h1, h2, Instr.sureAddr, fieldPlace, run_sizeOf' h3, h4, h5, addr_add]
theorem JQ0_field0 {s f off ft n : Nat} [TF P s f off ft n] {x : Operand} {b : Nat} (hx : ev E x = some (.pointer (some ⟨b, 0, none⟩))) : JQ0 P N ⟨d, .fieldAddr s x f, ty, pos, after, g⟩ E D (.pointer (some ⟨b, off, none⟩)) := by
  have := JQ0_field (P := P) (N := N) (D := D) (d := d) (ty := ty) (pos := pos) (after := after) (g := g) (s := s) (f := f) hx
  rw [Nat.zero_add] at this
  exact this
end
/-- The one that may come up now: it stores, or makes memory. -/
theorem JM_one {ops : Array Oper} {fuel : Nat} {ls : List Bool} (i : Nat) {o : Oper} (ho : ops.toList[i]? = some o) (hg : o.guard = none) (hr : Region.ready .any ops ls.toArray = [i]) (hp : Plain P o)
    (h : JO P N none o E D L (fun E' D' L' => ((ls.set i true).getD m true = false → Ent L' L0) ∧ JM P N ops m fuel (ls.set i true) E' D' L' L0 Q) Q) : JM P N ops m (fuel + 1) ls E D L L0 Q := by
  intro F a w hrep hsat _
  rw [Array.getElem?_toList] at ho
  refine ⟨fun h0 => (by rw [hr] at h0; cases h0), fun k hk => ?_⟩
  rw [hr] at hk
  simp only [List.mem_singleton] at hk
  subst hk
  simp only [wpOp, ho, Region.wanted, hg, if_true]
  refine .inl ?_
  have h1 := (h F a w hrep hsat (fun a' w' => ((ls.toArray.setIfInBounds k true).getD m true = false → Sat w' (F :: L0)) ∧ wpAnyM P .any ops (lift N F Q) m (fun w => Sat w (F :: L0)) fuel (ls.toArray.setIfInBounds k true) a' w') (fun E' D' L' a' w' hn hr' hs' => by
    rw [List.setIfInBounds_toArray]
    exact ⟨fun hf => hn.1 (by rw [getD_toArray] at hf; exact hf) F w' hs', hn.2 F a' w' hr' hs' hn.1⟩)).2
  rw [show (FW none).round = none from rfl, Oper.semAt_none] at h1
  unfold Oper.wp
  cases hres : (execOp a.eval o).run P w with
  | ok n w' =>
    rw [hres] at h1
    rcases hp _ _ _ _ hres with rfl | ⟨v, rfl⟩
    · exact h1
    · exact h1
  | halt z w' =>
    rw [hres] at h1
    cases z <;> first | exact h1 | exact h1.elim
/-- The same, where what is read stays for good. -/
theorem JG_one {ops : Array Oper} {fuel : Nat} {ls : List Bool} (i : Nat) {o : Oper} (ho : ops.toList[i]? = some o) (hg : o.guard = none) (hr : Region.ready .any ops ls.toArray = [i]) (hp : Plain P o)
    (h : JO P N none o E D L (fun E' D' L' => Ent L' L0 ∧ JG P N ops fuel (ls.set i true) E' D' L' L0 Q) Q) : JG P N ops (fuel + 1) ls E D L L0 Q := by
  intro F a w hrep hsat
  rw [Array.getElem?_toList] at ho
  refine wpAnyH_all hr (by simp) fun k hk => ?_
  simp only [List.mem_singleton] at hk
  subst hk
  simp only [wpOp, ho, Region.wanted, hg, if_true]
  refine .inl ?_
  have h1 := (h F a w hrep hsat (fun a' w' => Sat w' (F :: L0) ∧ wpAnyH P .any ops (lift N F Q) (fun w => Sat w (F :: L0)) fuel (ls.toArray.setIfInBounds k true) a' w') (fun E' D' L' a' w' hn hr' hs' => ⟨hn.1 F w' hs', by
    rw [List.setIfInBounds_toArray]
    exact hn.2 F a' w' hr' hs'⟩)).2
  rw [show (FW none).round = none from rfl, Oper.semAt_none] at h1
  unfold Oper.wp
  cases hres : (execOp a.eval o).run P w with
  | ok n w' =>
    rw [hres] at h1
    rcases hp _ _ _ _ hres with rfl | ⟨v, rfl⟩
    · exact h1
    · exact h1
  | halt z w' =>
    rw [hres] at h1
    cases z <;> first | exact h1 | exact h1.elim
theorem JM_fin {ops : Array Oper} {fuel : Nat} {ls : List Bool} (hr : orL (rdy ops ls) (idxs ops.toList 0) = false) (h : Q .normal E D L) : JM P N ops m fuel ls E D L L0 Q := by
  have hr' : Region.ready .any ops ls.toArray = [] := by
    rw [orL_eq, ← idxs_range] at hr
    rw [rdy_eq, List.filter_eq_nil_iff]
    intro i hi hr'
    rw [List.any_eq_false] at hr
    exact hr i hi hr'
  intro F a w hrep hsat _
  have h0 : lift N F Q .normal a w := ⟨E, D, L, h, hrep, hsat⟩
  cases fuel with
  | zero => exact ⟨hr', h0⟩
  | succ fuel => exact ⟨fun _ => h0, fun i hi => (by rw [hr'] at hi; cases hi)⟩
end
end Go.Sp
