/- What a call is handed, as frozen rows; what it leaves. -/
import Derived.Test.YtejhdhmopiahhaaDoorSp16
import Derived.Deep.Slices
import Derived.ProofKit
import Derived.SizedLaws
namespace Go.Sp
open Go.RowKit
theorem list_pick {α β γ : Type} (f : β → α) (R : γ → β → Prop) : ∀ (cs : List α) (ds : List γ), cs.length = ds.length → (∀ (i : Nat) (c : α) (d : γ), cs[i]? = some c → ds[i]? = some d → ∃ y, c = f y ∧ R d y) →
    ∃ ys : List β, cs = ys.map f ∧ ∀ (i : Nat) (y : β) (d : γ), ys[i]? = some y → ds[i]? = some d → R d y
  | [], [], _, _ => ⟨[], rfl, fun i y d h => by simp at h⟩
  | [], _ :: _, h, _ => by simp at h
  | _ :: _, [], h, _ => by simp at h
  | c :: cs, d :: ds, hl, h => by
    obtain ⟨y, h1, h2⟩ := h 0 c d rfl rfl
    obtain ⟨ys, h3, h4⟩ := list_pick f R cs ds (by simpa using hl) (fun i c' d' hc hd => h (i + 1) c' d' (by simpa using hc) (by simpa using hd))
    refine ⟨y :: ys, by rw [List.map_cons, ← h1, ← h3], fun i y' d' hy hd => ?_⟩
    cases i with
    | zero => simp at hy hd; subst hy; subst hd; exact h2
    | succ i => exact h4 i y' d' (by simpa using hy) (by simpa using hd)
section
variable {H : Type} {enc : TypeId × Value → H} {P : Program} {W : World} {base : Nat} {sp : Nat → Bool} {held : Bool}
theorem cells_get {a : Addr} : ∀ {n : Nat} {cs : List Value}, W.cells? base a n = some cs → cs.length = n ∧ ∀ i u, cs[i]? = some u → W.cell? (a.add i) = some u := by
  intro n cs h
  unfold World.cells? at h
  split at h
  · refine ⟨by simpa using mapM_some_length h, fun i u hu => ?_⟩
    have hi : i < n := by have h1 := mapM_some_length h; have h2 := (List.getElem?_eq_some_iff.1 hu).1; simp at h1; omega
    have := mapM_some_get h i i (by simp [hi])
    rw [this, hu]
  · cases h
theorem read_slice {t e : TypeId} {sz n : Nat} {cs : List Value} {x : DataW H × List MemPlace} (ht : P.underlying t = some (.slice e)) (hc : P.cellsOf e = sz) (hz : 0 < sz) (h : DataW.trod enc P W base sp held n t cs = some x) :
    ∃ (p : Option Addr) (len cap : Nat) (css : List (List Value)) (Ds : List (DataW H)), cs = [.slice p len cap] ∧ css.length = len ∧ Ds.length = len ∧ len ≤ maxLen ∧ len ≤ cap ∧ (∀ k, Base W k → Vw sz (.slice p len cap) len css.flatten k) ∧
      (∀ (i : Nat) (c : List Value) (D : DataW H), css[i]? = some c → Ds[i]? = some D → c.length = sz ∧ ∃ m q, DataW.trod enc P W base sp held m e c = some (D, q)) ∧ (x.1 = .nil ∧ Ds = [] ∨ ∃ spare, x.1 = .slice Ds spare) := by
  rcases Go.Deep.open_slice ht h with ⟨h1, h2⟩ | ⟨a, len, cap, m, n', D, Pl, h1, _, hle, hcap, hm, h2, h3⟩
  · refine ⟨none, 0, 0, [], [], h1, rfl, rfl, Nat.zero_le _, Nat.zero_le _, fun k _ => ⟨by simp, Nat.zero_le _, none, 0, rfl, .inl rfl⟩, fun i c D hc' => by simp at hc', .inl ⟨by rw [h2], rfl⟩⟩
  · have hlm : len ≤ m := by rw [hm]; split <;> omega
    have hch : ∀ i, ∃ c : List Value, c.length = sz ∧ (i < len → W.cells? base (a.add (i * sz)) sz = some c ∧ DataW.trod enc P W base sp held n' e c = some (D i, Pl i)) := by
      intro i
      by_cases hi : i < len
      · obtain ⟨c, hc1, hc2⟩ := h3 i (by omega)
        rw [hc] at hc1
        exact ⟨c, (cells_get hc1).1, fun _ => ⟨hc1, hc2⟩⟩
      · exact ⟨List.replicate sz undef, by simp, fun h => absurd h hi⟩
    obtain ⟨C, hC⟩ := Classical.axiomOfChoice hch
    refine ⟨some a, len, cap, (List.range len).map C, (List.range len).map D, h1, by simp, by simp, by omega, hle, fun k hk => ?_, fun i c d hc' hd => ?_, .inr ⟨_, by rw [h2]⟩⟩
    · have hlen : ((List.range len).map C).flatten.length = len * sz := by
        rw [← List.flatMap_def, length_flat (fun x => (hC x).1)]; simp
      refine ⟨hlen, by omega, _, _, rfl, ?_⟩
      by_cases h0 : len = 0
      · exact .inl h0
      · right
        obtain ⟨hb, _⟩ := (hC 0).2 (by omega)
        have hcell : ∀ i u, ((List.range len).map C).flatten[i]? = some u → W.cell? (a.add i) = some u := by
          intro i u hu
          have hi : i < len * sz := by rw [← hlen]; exact (List.getElem?_eq_some_iff.1 hu).1
          have hj : i / sz < len := (Nat.div_lt_iff_lt_mul hz).2 hi
          have hr : i % sz < sz := Nat.mod_lt _ hz
          have e1 : i = i / sz * sz + i % sz := by rw [Nat.mul_comm]; exact (Nat.div_add_mod i sz).symm
          have hg := flat_get (f := C) (fun x => (hC x).1) (List.range len) (i / sz) (i % sz) (i / sz) hr (by simp [hj])
          rw [← List.flatMap_def] at hu
          rw [e1, hg] at hu
          have := (cells_get ((hC (i / sz)).2 hj).1).2 _ _ hu
          rw [e1]
          have e2 : (a.add (i / sz * sz)).add (i % sz) = a.add (i / sz * sz + i % sz) := by
            unfold Addr.add
            by_cases hA : i / sz * sz = 0 <;> by_cases hB : i % sz = 0 <;> simp [hA, hB] <;> omega
          rw [← e2]; exact this
        have hne : ((List.range len).map C).flatten[0]? ≠ none := by
          rw [Ne, List.getElem?_eq_none_iff, hlen]
          have : 0 < len * sz := Nat.mul_pos (by omega) hz
          omega
        obtain ⟨u0, hu0⟩ := Option.ne_none_iff_exists'.1 hne
        have hA := hcell 0 u0 hu0
        obtain ⟨b, o, s⟩ := a
        have e0 : (⟨b, o, s⟩ : Addr).add 0 = ⟨b, o, s⟩ := by simp [Addr.add]
        rw [e0] at hA
        unfold World.cell? at hA
        split at hA
        · rename_i c ty fz hbk
          have hs : s = none := by
            cases s with
            | none => rfl
            | some _ => simp at hA
          subst hs
          refine ⟨b, o, c.toList, ty, fz, rfl, by simpa using hk.1 _ _ hbk, fun i u hu => ?_⟩
          have h4 := hcell i u hu
          rw [addr_add] at h4
          unfold World.cell? at h4
          simp only [hbk] at h4
          simpa using h4
        · cases hA
    · have hi : i < len := by have := (List.getElem?_eq_some_iff.1 hc').1; simpa using this
      simp [hi] at hc' hd
      subst hc'; subst hd
      exact ⟨(hC i).1, _, _, ((hC i).2 hi).2⟩
theorem read_int {t : TypeId} {k : IntKind} {n : Nat} {cs : List Value} {x : DataW H × List MemPlace} (ht : P.underlying t = some (.int k)) (h : DataW.trod enc P W base sp held n t cs = some x) : ∃ z : Int, cs = [.int k z] ∧ x.1 = .lit (.int k z) ∧ (Lit.int k z).wf = true := by
  obtain ⟨z, h1, h2, h3⟩ := DataW.trod_int ht h
  exact ⟨z, h1, by rw [h2], h3⟩
/-- A row of numbers. -/
theorem read_ints {t e : TypeId} {k : IntKind} {n : Nat} {cs : List Value} {x : DataW H × List MemPlace} (ht : P.underlying t = some (.slice e)) (he : P.underlying e = some (.int k)) (hc : P.cellsOf e = 1) (h : DataW.trod enc P W base sp held n t cs = some x) :
    ∃ (p : Option Addr) (cap : Nat) (zs : List Int) (Ds : List (DataW H)), cs = [.slice p zs.length cap] ∧ Ds.length = zs.length ∧ zs.length ≤ maxLen ∧ zs.length ≤ cap ∧ (∀ q, Base W q → Vw 1 (.slice p zs.length cap) zs.length (zs.map (.int k)) q) ∧ (∀ z ∈ zs, (Lit.int k z).wf = true) ∧
      (x.1 = .nil ∧ Ds = [] ∨ ∃ spare, x.1 = .slice Ds spare) := by
  obtain ⟨p, len, cap, css, Ds, h1, h2, h3, h4, h4', h5, h6, h7⟩ := read_slice ht hc (by decide) h
  obtain ⟨zs, hz, hw⟩ := list_pick (fun z : Int => [Value.int k z]) (fun _ z => (Lit.int k z).wf = true) css Ds (by omega) (fun i c D hc' hd => by
    obtain ⟨_, m, q, hq⟩ := h6 i c D hc' hd
    obtain ⟨z, h8, _, h9⟩ := read_int he hq
    exact ⟨z, h8, h9⟩)
  have hl : zs.length = len := by rw [← h2, hz]; simp
  subst hl
  refine ⟨p, cap, zs, Ds, h1, h3, h4, h4', fun q hq => ?_, fun z hz' => ?_, h7⟩
  · have := h5 q hq
    rw [hz] at this
    have e : (zs.map fun z : Int => [Value.int k z]).flatten = zs.map (.int k) := by
      clear this hz hw h5 h6 h4 h4' h3 h2 h1
      induction zs with
      | nil => rfl
      | cons z zs ih => simp [ih]
    rw [e] at this
    exact this
  · obtain ⟨i, hi, rfl⟩ := List.mem_iff_getElem.1 hz'
    exact hw i _ _ (List.getElem?_eq_getElem hi) (List.getElem?_eq_getElem (show i < Ds.length by omega))
end
/-- What is left, where all that there was is as it was. -/
theorem below_of_base {w W : World} {L : List HP} (h : Sat w (Base W :: L)) : Below W.heap.size W w := by
  obtain ⟨h1, h2, h3, h4⟩ := h.base
  refine ⟨h2, h3, h4, ?_, fun k hk => ?_⟩
  · by_cases h0 : W.heap.size = 0
    · omega
    · have e := Array.getElem?_eq_getElem (show W.heap.size - 1 < W.heap.size by omega)
      have := (Array.getElem?_eq_some_iff.1 (h1 _ _ e)).1
      omega
  · have e := Array.getElem?_eq_getElem hk
    rw [e]
    exact h1 k _ e
section
variable {H : Type} {enc : TypeId × Value → H} {P : Program}
theorem trodAll_stays (hl : laidOutB P = true) {W W' : World} (hb : Below W.heap.size W W') : ∀ {ts : List TypeId} {vs : List Value} {ds : List (DataW H)} {ps : List MemPlace}, (∀ t ∈ ts, P.readableRec t = true ∧ t < P.types.size) →
    DataW.TrodAll enc P W 0 (fun _ => true) true ts vs ds ps → (∀ x ∈ ps, x.block < W.heap.size) → DataW.TrodAll enc P W' 0 (fun b => decide (b < W.heap.size)) true ts vs ds ps
  | [], [], [], _, _, h, _ => h
  | t :: ts, v :: vs, d :: ds, ps, hr, h, hp => by
    obtain ⟨p, q, h1, h2, rfl⟩ := h
    exact ⟨p, q, Below.trod hl (hr t (by simp)).1 (hr t (by simp)).2 h1 hb (fun x hx => hp x (by simp [hx])), trodAll_stays hl hb (fun t ht => hr t (by simp [ht])) h2 (fun x hx => hp x (by simp [hx])), rfl⟩
  | [], _ :: _, _, _, _, h, _ => h.elim
  | [], [], _ :: _, _, _, h, _ => h.elim
  | _ :: _, [], _, _, _, h, _ => h.elim
  | _ :: _, _ :: _, [], _, _, h, _ => h.elim
/-- A law that answered true, and left all as it was. -/
theorem post_true {f : Func} {s : ChangeSpec} {apart handsOn : Bool} {W W' : World} {args : Array Value} {ds gs : List (DataW H)} {before : List MemPlace} {t : TypeId} (hl : laidOutB P = true) (hr : ∀ t ∈ f.params.toList, P.readableRec t = true ∧ t < P.types.size)
    (hW : DataW.Whole enc P f.params.toList s.vars apart W args.toList ds gs before) (hb : Below W.heap.size W W') (hv : s.vars = []) (hs : s.fn H (ds ++ gs) = { results := [.lit (.bool true)], args := ds }) (ht : f.resultTypes = #[t]) (hu : P.underlying t = some .bool) :
    s.post enc P f apart true handsOn false W args (.bool true) W' := by
  have hW' := hW
  obtain ⟨p, q, h1, h2, rfl, _, _⟩ := hW
  rw [hv] at h2
  have hq : q = [] := by
    cases gs with
    | nil => exact h2
    | cons _ _ => exact h2.elim
  subst hq
  rw [List.append_nil] at hW'
  have h3 := trodAll_stays hl hb hr h1 (fun x hx => hW'.lt x hx)
  refine ⟨ds, gs, p, [], p, [], hW', ?_, ?_, ?_, Below.frame hb _, fun h => by cases h⟩
  · rw [hs, ht]
    exact ⟨[], [], ⟨1, by simp [DataW.trod, hu, Value.cells]⟩, rfl, rfl⟩
  · rw [hs]; exact h3
  · rw [hs, hv]; rfl
end
theorem base_all {W : World} : ∀ {L : List HP}, (∀ A ∈ L, ∀ k, Base W k → A k) → Sat W (Base W :: L)
  | [], _ => sat_base W
  | A :: L, h => by
    have h1 : Sat W (Base W :: Base W :: L) := (base_all (L := L) (fun B hB => h B (by simp [hB]))).dup (pers_base W)
    exact (h1.conv (fun k hk => h A (by simp) k hk)).swap
/-- A contract, at a call from without. -/
theorem row_of_ct {P : Program} {f : FuncId} {args : Array Value} {W : World} {v : Value} {L : List HP} (hc : Ct P f args L (RetV v [])) (hL : ∀ A ∈ L, ∀ k, Base W k → A k) : Calls P f args W fun e W' => e = .returned v ∧ Below W.heap.size W W' :=
  (hc (Base W) W (base_all hL)).mono fun _ _ ⟨_, _, ⟨he, hl⟩, hs⟩ => ⟨he, below_of_base (by rw [hl] at hs; exact hs)⟩
end Go.Sp
