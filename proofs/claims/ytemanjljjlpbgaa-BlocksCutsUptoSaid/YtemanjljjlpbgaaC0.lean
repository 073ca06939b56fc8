/- Layer 10: codes as they are handed in -/
import Derived.Test.YtemanjljjlpbgaaRows
import Derived.Test.YtemanjljjlpbgaaD0
namespace Go.Proofs.Ytemanjljjlpbgaa
open Go Go.Sp Go.ChangeShapes Go.WideShapes Go.ChangeAt Go.RowKit
theorem ce3 : Try.prog.cellsOf 3 = 1 := by kernel_rfl
theorem ce2 : Try.prog.cellsOf 2 = 1 := by kernel_rfl
theorem ce24 : Try.prog.cellsOf 24 = 1 := by kernel_rfl
theorem ce40 : Try.prog.cellsOf 40 = 6 := by kernel_rfl
theorem ul2 : Try.prog.underlying 2 = some (.int .i64) := by kernel_rfl
theorem ul3 : Try.prog.underlying 3 = some (.int .i64) := by kernel_rfl
section
variable {H : Type} {enc : TypeId × Value → H} {W : World} {base : Nat} {sp : Nat → Bool} {held : Bool}
/-- How an instruction's reading goes with it. -/
def ReadI {H : Type} (W : World) (D : DataW H) (y : Insn × Value) : Prop :=
  (∃ p cap, y.2 = .slice p y.1.l.length cap) ∧ (∀ k, Base W k → Vw 1 y.2 y.1.l.length (ints y.1.l) k) ∧
  ∃ d0 d1 d2 d3 d4 dl, D = .agg [d0, d1, d2, d3, d4, dl] ∧ (dl = .nil ∧ y.1.l = [] ∨ ∃ es spare, dl = .slice es spare ∧ es.length = y.1.l.length)
theorem read_insn {n : Nat} {c : List Value} {D : DataW H} {q : List MemPlace} (h : DataW.trod enc Try.prog W base sp held n 40 c = some (D, q)) : ∃ y : Insn × Value, c = insnCells y ∧ ReadI W D y := by
  obtain ⟨xs, m, _, hx, hl, hlen, hf⟩ := DataW.trod_struct Try.underlying40 h
  rw [ce40] at hl
  match c, hl with
  | [c0, c1, c2, c3, c4, c5], _ =>
  match xs, hlen with
  | [y0, y1, y2, y3, y4, y5], _ =>
    have h0 := hf 0 _ rfl
    have h1 := hf 1 _ rfl
    have h2 := hf 2 _ rfl
    have h3 := hf 3 _ rfl
    have h4 := hf 4 _ rfl
    have h5 := hf 5 _ rfl
    simp only [ce3, ce2, ce24, List.drop, List.take, List.getElem?_cons_zero, List.getElem?_cons_succ] at h0 h1 h2 h3 h4 h5
    obtain ⟨z0, e0, _⟩ := read_int ul3 h0
    obtain ⟨z1, e1, _⟩ := read_int ul2 h1
    obtain ⟨z2, e2, _⟩ := read_int ul3 h2
    obtain ⟨z3, e3, _⟩ := read_int ul3 h3
    obtain ⟨z4, e4, _⟩ := read_int ul3 h4
    obtain ⟨p, cap, zs, Ds, e5, l1, _, _, l2, _, l3⟩ := read_ints Try.underlying24 ul3 ce3 h5
    cases e0; cases e1; cases e2; cases e3; cases e4; cases e5
    simp only [Prod.mk.injEq] at hx
    refine ⟨(⟨z0, z1, z2, z3, z4, zs⟩, .slice p zs.length cap), rfl, ⟨p, cap, rfl⟩, l2, y0.1, y1.1, y2.1, y3.1, y4.1, y5.1, hx.1, ?_⟩
    rcases l3 with ⟨e, e'⟩ | ⟨spare, e⟩
    · refine .inl ⟨e, ?_⟩
      subst e'
      exact List.eq_nil_of_length_eq_zero l1.symm
    · exact .inr ⟨Ds, spare, e, l1⟩
/-- A code that is handed in. -/
theorem read_code {v : Value} {d : DataW H} {ps : List MemPlace} {r : Go.Reach} {b0 : Nat} (hv : Value.okWide Try.prog W r b0 22 v) (h : DataW.Trod enc Try.prog W base sp held 22 v d ps) :
    ∃ (p : Option Addr) (cap : Nat) (xs : List Insn) (Ds : List (DataW H)), v = .slice p xs.length cap ∧ xs.length ≤ cap ∧ Ds.length = xs.length ∧ (∀ k, Base W k → VCode (.slice p xs.length cap) xs k) ∧
      (d = .nil ∧ Ds = [] ∨ ∃ spare, d = .slice Ds spare) ∧ ∀ (i : Nat) (x : Insn) (D : DataW H), xs[i]? = some x → Ds[i]? = some D → ∃ lv, ReadI W D (x, lv) := by
  obtain ⟨n, hn⟩ := h
  have hv2 : ∃ p len cap, v = .slice p len cap := by
    have hv' := hv
    unfold Value.okWide at hv'
    rw [Try.underlying22] at hv'
    simp only [Cell.okWide, Try.underlying22, Cell.ok] at hv'
    split at hv' <;> simp_all
  obtain ⟨p0, l0, c0, rfl⟩ := hv2
  obtain ⟨p, len, cap, css, Ds, h1, h2, h3, h4, h4', h5, h6, h7⟩ := read_slice Try.underlying22 ce40 (by decide) hn
  obtain ⟨ys, hy, hw⟩ := list_pick insnCells (fun D y => ReadI W D y) css Ds (by omega) (fun i c D hc hd => by
    obtain ⟨_, m, q, hq⟩ := h6 i c D hc hd
    exact read_insn hq)
  have hl : ys.length = len := by rw [← h2, hy]; simp
  have hz : (ys.map Prod.fst).zip (ys.map Prod.snd) = ys := by
    clear hy hw hl
    induction ys with
    | nil => rfl
    | cons y ys ih => simp [ih]
  have hxl : (ys.map Prod.fst).length = len := by simp [hl]
  cases h1
  refine ⟨p0, c0, ys.map Prod.fst, Ds, by rw [hxl], by omega, by omega, fun k hk => ?_, h7, fun i x D hx hd => ?_⟩
  · rw [hxl]
    refine ⟨ys.map Prod.snd, by simp, ?_, fun i x lv hx hlv => ?_⟩
    · rw [hz, hxl, List.flatMap_def, ← hy]
      exact h5 k hk
    · have hi : i < ys.length := by have := (List.getElem?_eq_some_iff.1 hx).1; simpa using this
      simp only [List.getElem?_map, List.getElem?_eq_getElem hi, Option.map_some, Option.some.injEq] at hx hlv
      obtain ⟨⟨p', cap', e⟩, hvw, _⟩ := hw i _ Ds[i] (List.getElem?_eq_getElem hi) (List.getElem?_eq_getElem (by omega))
      subst hx; subst hlv
      exact ⟨p', cap', e, hvw k hk⟩
  · have hi : i < ys.length := by have := (List.getElem?_eq_some_iff.1 hx).1; simpa using this
    simp only [List.getElem?_map, List.getElem?_eq_getElem hi, Option.map_some, Option.some.injEq] at hx
    subst hx
    exact ⟨_, hw i _ D (List.getElem?_eq_getElem hi) hd⟩
end
end Go.Proofs.Ytemanjljjlpbgaa
