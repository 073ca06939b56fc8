/- Layer 10: what each operation of BlocksKnown's drawn region leaves -/
import Derived.Test.YtemanjljjlpbgaaW5
namespace Go.Proofs.Ytemanjljjlpbgaa
open Go Go.Sp
/-- What is there after an operation. -/
def After (E : Env) (D : List Deferred) (L : List HP) (d : Nat) (s : SK) (E' : Env) (D' : List Deferred) (L' : List HP) : Prop := D' = D ∧ ∃ K v, Ent L' (K ++ L) ∧ E' = put E (some d) v ∧ s.ok (K ++ L) v
theorem after_mk {E : Env} {D : List Deferred} {L : List HP} {d : Nat} {s : SK} {L' K : List HP} {v : Value} (he : Ent L' (K ++ L)) (hs : s.ok (K ++ L) v) : After E D L d s (put E (some d) v) D L' := ⟨rfl, K, v, he, rfl, hs⟩
theorem pevs1 {E : Env} {i : Nat} {x : Operand} {v : Value} {l : List (Nat × Operand)} {vs : List (Nat × Value)} (h : ev E x = some v) (t : pevs E l = some vs) : pevs E ((i, x) :: l) = some ((i, v) :: vs) := by simp [pevs, h, t]
theorem evs1 {E : Env} {x : Operand} {v : Value} {l : List Operand} {vs : List Value} (h : ev E x = some v) (t : evs E l = some vs) : evs E (x :: l) = some (v :: vs) := by simp [evs, h, t]
theorem cat_table (T : List Entry) : Cat (T.map fun t => .agg (entryCells t).toArray) 3 (T.flatMap entryCells) := ⟨by
  refine ⟨fun v hv => ?_, ?_⟩
  · obtain ⟨t, _, rfl⟩ := List.mem_map.1 hv
    rfl
  · rw [List.flatMap_map]
    refine congrArg (fun f => T.flatMap f) (funext fun t => ?_)
    simp [Value.cells]⟩
section
variable {P : Program} {N : Nat} {D : List Deferred} {Q : Post} {ops : Array Oper} {base : List Nat} {E0 : Env} {L0 : List HP} {l : List SK}
variable (P N) in
def Chain (ops : Array Oper) (base : List Nat) (E0 : Env) (D : List Deferred) (L0 : List HP) (l : List SK) (Q : Post) (os : List Oper) (i : Nat) : Prop :=
  (∀ (j : Nat) (s : SK), l[j]? = some s → gslot ops j = some (113 + j)) → StepsOk P N ops base E0 D L0 (specOf l) Q os i
theorem steps_cons {o : Oper} {r : List Oper} {i j : Nat} (s : SK) (d : Nat) (hj : i + 1 = j) (hs : l[i]? = some s) (hd : o.dst = some d)
    (h1 : ∀ (E : Env) (K0 : List HP), (∀ s ∈ base, Env.get E s = Env.get E0 s) → (∀ (j : Nat) (s : SK), depB o j = true → l[j]? = some s → ∃ v, Env.get E (113 + j) = some v ∧ s.ok (K0 ++ L0) v) → JO P N none o E D (K0 ++ L0) (After E D (K0 ++ L0) d s) Q)
    (h2 : Chain P N ops base E0 D L0 l Q r j) : Chain P N ops base E0 D L0 l Q (o :: r) i := by
  subst hj
  intro hg
  refine ⟨fun E K0 d' hd' hb hdep => ?_, h2 hg⟩
  rw [hd] at hd'; cases hd'
  refine JO_mono (h1 E K0 hb fun j s' hj hl => ?_) ?_
  · obtain ⟨v, h3, h4⟩ := hdep j (113 + j) hj (hg j s' hl)
    refine ⟨v, h3, ?_⟩
    unfold specOf at h4
    rw [hl] at h4
    exact h4
  · rintro E' D' L' ⟨h5, K, v, h6, h7, h8⟩
    refine ⟨h5, K, v, h6, h7, ?_⟩
    unfold specOf
    rw [hs]
    exact h8
theorem steps_nil {i : Nat} : Chain P N ops base E0 D L0 l Q [] i := fun _ => trivial
theorem chain_use (n : Nat) (hl : l.length = n) (hg : (List.range n).all (fun j => match gslot ops j with | some d => Nat.beq d (113 + j) | none => false) = true) (h : Chain P N ops base E0 D L0 l Q ops.toList 0) : StepsOk P N ops base E0 D L0 (specOf l) Q ops.toList 0 := by
  refine h fun j s hj => ?_
  have h1 : j < n := by rw [← hl]; exact (List.getElem?_eq_some_iff.1 hj).1
  rw [List.all_eq_true] at hg
  have h2 := hg j (List.mem_range.2 h1)
  split at h2
  · rename_i d hd
    rw [hd, Nat.eq_of_beq_eq_true h2]
  · cases h2
end
def skl (rl : Nat) : List SK := [.entry [] (-1) 2,
  .val (.slice (some ⟨rl, 0, none⟩) 129 129),
  .entry longI (-1) 2,
  .val (.slice (some ⟨rl, 0, none⟩) 129 129),
  .val (.slice (some ⟨rl, 6, none⟩) 128 128),
  .entry rearI (-1) 0,
  .insn ⟨0, 0, 0, 0, 0, []⟩,
  .code k3,
  .entry k3 0 12,
  .insn ⟨0, 0, 0, 0, 0, []⟩,
  .row [0],
  .insn ⟨11, 0, 0, 0, 0, [0]⟩,
  .code k4,
  .entry k4 0 14,
  .row [2],
  .insn ⟨11, 0, 0, 0, 0, [2]⟩,
  .insn ⟨0, 0, 0, 0, 0, []⟩,
  .insn ⟨24, 0, 0, 0, 0, []⟩,
  .code k5,
  .entry k5 1 13,
  .row [1, 1],
  .insn ⟨11, 0, 0, 0, 0, [1, 1]⟩,
  .insn ⟨24, 0, 0, 0, 0, []⟩,
  .code k6,
  .entry k6 0 12,
  .insn ⟨11, 0, 0, 0, 0, []⟩,
  .insn ⟨24, 0, 0, 0, 0, []⟩,
  .code k7,
  .entry k7 0 12,
  .insn ⟨19, 0, 0, 0, 0, []⟩,
  .insn ⟨24, 0, 0, 0, 0, []⟩,
  .code k8,
  .entry k8 0 12,
  .insn ⟨0, 0, 0, 0, 0, []⟩,
  .row [3],
  .insn ⟨12, 0, 0, 0, 0, [3]⟩,
  .insn ⟨24, 0, 0, 0, 0, []⟩,
  .code k9,
  .entry k9 1 12,
  .insn ⟨0, 0, 0, 0, 0, []⟩,
  .row [0],
  .insn ⟨12, 0, 0, 0, 0, [0]⟩,
  .code k10,
  .entry k10 1 12,
  .insn ⟨24, 0, 0, 0, 0, []⟩,
  .insn ⟨24, 0, 0, 0, 0, []⟩,
  .code k11,
  .entry k11 1 13,
  .insn ⟨15, 0, 0, 0, 0, []⟩,
  .row [1],
  .insn ⟨11, 0, 0, 0, 0, [1]⟩,
  .code k12,
  .entry k12 1 14,
  .row [0],
  .insn ⟨19, 0, 0, 0, 0, [0]⟩,
  .code k13,
  .entry k13 (-1) 0,
  .row [9],
  .insn ⟨14, 0, 0, 0, 0, [9]⟩,
  .insn ⟨24, 0, 0, 0, 0, []⟩,
  .code k14,
  .entry k14 (-1) 0,
  .insn ⟨99, 0, 0, 0, 0, []⟩,
  .insn ⟨24, 0, 0, 0, 0, []⟩,
  .code k15,
  .entry k15 (-1) 0,
  .table,
  .val (.int .i64 16),
  .val (.int .i64 0)]
end Go.Proofs.Ytemanjljjlpbgaa
