/- Layer 10: rows and bytes as they are handed in -/
import Derived.Test.YtemanjljjlpbgaaK1
import Derived.Test.YtemanjljjlpbgaaSp17
import Derived.OpenShut
namespace Go.Proofs.Ytemanjljjlpbgaa
open Go Go.Sp Go.ChangeShapes Go.WideShapes Go.ChangeAt Go.RowKit
theorem own_ : ownKnob Try.prog.godebug = none := by kernel_rfl
theorem laidOut_ : laidOutB Try.prog = true := by kernel_rfl
theorem ce5 : Try.prog.cellsOf 5 = 1 := by kernel_rfl
theorem ce54 : Try.prog.cellsOf 54 = 3 := by kernel_rfl
theorem ce56 : Try.prog.cellsOf 56 = 5 := by kernel_rfl
section
variable {H : Type} {enc : TypeId × Value → H} {W : World} {base : Nat} {sp : Nat → Bool} {held : Bool}
theorem wf_byte {z : Int} (h : (Lit.int .u8 z).wf = true) : ∃ n : Nat, z = (n : Int) ∧ n ≤ 255 := by
  simp [Lit.wf, IntKind.min, IntKind.max, IntKind.signed, IntKind.bits] at h
  exact ⟨z.toNat, by omega, by omega⟩
theorem byte_cell {n : Nat} {c : List Value} {x : DataW H × List MemPlace} (h : DataW.trod enc Try.prog W base sp held n 5 c = some x) : ∃ b : Nat, c = [.int .u8 (b : Int)] ∧ b ≤ 255 := by
  obtain ⟨z, e, _, hw⟩ := read_int Try.underlying5 h
  obtain ⟨b, rfl, hb⟩ := wf_byte hw
  exact ⟨b, e, hb⟩
theorem read_byte {v : Value} {d : DataW H} {ps : List MemPlace} {r : Go.Reach} {b0 : Nat} (hv : Value.okWide Try.prog W r b0 5 v) (h : DataW.Trod enc Try.prog W base sp held 5 v d ps) : ∃ b : Nat, v = .int .u8 (b : Int) ∧ b ≤ 255 := by
  obtain ⟨z, rfl, _, _, hw⟩ := open_int Try.underlying5 hv h
  obtain ⟨b, rfl, hb⟩ := wf_byte hw
  exact ⟨b, rfl, hb⟩
theorem ok_slice {t e : TypeId} {v : Value} {r : Go.Reach} {b0 : Nat} (hu : Try.prog.underlying t = some (.slice e)) (hv : Value.okWide Try.prog W r b0 t v) : ∃ p len cap, v = .slice p len cap := by
  unfold Value.okWide at hv
  rw [hu] at hv
  simp only [Cell.okWide, hu, Cell.ok] at hv
  split at hv <;> simp_all
theorem read_bytes {v : Value} {d : DataW H} {ps : List MemPlace} {r : Go.Reach} {b0 : Nat} (hv : Value.okWide Try.prog W r b0 45 v) (h : DataW.Trod enc Try.prog W base sp held 45 v d ps) :
    ∃ (p : Option Addr) (cap : Nat) (cs : List Nat), v = .slice p cs.length cap ∧ cs.length ≤ cap ∧ cs.length ≤ maxLen ∧ (∀ c ∈ cs, c ≤ 255) ∧ ∀ k, Base W k → Vw 1 (.slice p cs.length cap) cs.length (cs.map fun (c : Nat) => Value.int .u8 (c : Int)) k := by
  obtain ⟨n, hn⟩ := h
  obtain ⟨p0, l0, c0, rfl⟩ := ok_slice Try.underlying45 hv
  obtain ⟨p, cap, zs, Ds, h1, _, h3, h3', h4, h5, _⟩ := read_ints Try.underlying45 Try.underlying5 ce5 hn
  cases h1
  have hz : zs = (zs.map Int.toNat).map (fun (c : Nat) => (c : Int)) := by
    rw [List.map_map]
    conv => lhs; rw [← List.map_id zs]
    refine List.map_congr_left fun z hz => ?_
    obtain ⟨b, rfl, _⟩ := wf_byte (h5 z hz)
    simp
  refine ⟨p0, c0, zs.map Int.toNat, by simp, by simpa using h3', by simpa using h3, fun c hc => ?_, fun k hk => ?_⟩
  · obtain ⟨z, hz, rfl⟩ := List.mem_map.1 hc
    obtain ⟨b, rfl, hb⟩ := wf_byte (h5 z hz)
    simpa using hb
  · have := h4 k hk
    rw [List.length_map]
    have e : (zs.map Int.toNat).map (fun (c : Nat) => Value.int .u8 (c : Int)) = zs.map (.int .u8) := by
      conv => rhs; rw [hz]
      rw [List.map_map, List.map_map, List.map_map]; rfl
    rw [e]; exact this
theorem read_row {n : Nat} {c : List Value} {x : DataW H × List MemPlace} (h : DataW.trod enc Try.prog W base sp held n 56 c = some x) : ∃ y : Row, c = rowCells y ∧ y.op ≤ 255 ∧ y.many ≤ 255 ∧ y.l0 ≤ 255 ∧ y.l1 ≤ 255 ∧ y.l2 ≤ 255 := by
  obtain ⟨xs, m, _, hx, hl, hlen, hf⟩ := DataW.trod_struct Try.underlying56 h
  rw [ce56] at hl
  match c, hl with
  | [c0, c1, c2, c3, c4], _ =>
  match xs, hlen with
  | [y0, y1, y2], _ =>
    have h0 := hf 0 _ rfl
    have h1 := hf 1 _ rfl
    have h2 := hf 2 _ rfl
    simp only [ce5, ce54, List.drop, List.take, List.getElem?_cons_zero, List.getElem?_cons_succ] at h0 h1 h2
    obtain ⟨b0, e0, g0⟩ := byte_cell h0
    obtain ⟨b1, e1, g1⟩ := byte_cell h1
    have h3 : ∃ a0 a1 a2 : Nat, [c2, c3, c4] = [.int .u8 (a0 : Int), .int .u8 (a1 : Int), .int .u8 (a2 : Int)] ∧ a0 ≤ 255 ∧ a1 ≤ 255 ∧ a2 ≤ 255 := by
      obtain ⟨zs, m', _, _, _, hzl, hz⟩ := DataW.trod_array Try.underlying54 h2
      have hz0 := hz 0 (by decide)
      have hz1 := hz 1 (by decide)
      have hz2 := hz 2 (by decide)
      match zs, hzl with
      | [z0, z1, z2], _ =>
        simp only [ce5, Nat.zero_mul, Nat.one_mul, Nat.mul_one, List.drop, List.take, List.getElem?_cons_zero, List.getElem?_cons_succ] at hz0 hz1 hz2
        obtain ⟨a0, e0, g0⟩ := byte_cell hz0
        obtain ⟨a1, e1, g1⟩ := byte_cell hz1
        obtain ⟨a2, e2, g2⟩ := byte_cell hz2
        cases e0; cases e1; cases e2
        exact ⟨a0, a1, a2, rfl, g0, g1, g2⟩
    obtain ⟨a0, a1, a2, e2, g2, g3, g4⟩ := h3
    cases e0; cases e1; cases e2
    exact ⟨⟨b0, b1, a0, a1, a2⟩, rfl, g0, g1, g2, g3, g4⟩
theorem read_rows {v : Value} {d : DataW H} {ps : List MemPlace} {r : Go.Reach} {b0 : Nat} (hv : Value.okWide Try.prog W r b0 23 v) (h : DataW.Trod enc Try.prog W base sp held 23 v d ps) :
    ∃ (p : Option Addr) (cap : Nat) (rs : List Row), v = .slice p rs.length cap ∧ rs.length ≤ cap ∧ Bytes rs ∧ ∀ k, Base W k → Vw 5 (.slice p rs.length cap) rs.length (rs.flatMap rowCells) k := by
  obtain ⟨n, hn⟩ := h
  obtain ⟨p0, l0, c0, rfl⟩ := ok_slice Try.underlying23 hv
  obtain ⟨p, len, cap, css, Ds, h1, h2, h3, h4, h4', h5, h6, h7⟩ := read_slice Try.underlying23 ce56 (by decide) hn
  obtain ⟨ys, hy, hw⟩ := list_pick rowCells (fun _ (y : Row) => y.op ≤ 255 ∧ y.many ≤ 255 ∧ y.l0 ≤ 255 ∧ y.l1 ≤ 255 ∧ y.l2 ≤ 255) css Ds (by omega) (fun i c D hc hd => by
    obtain ⟨_, m, q, hq⟩ := h6 i c D hc hd
    exact read_row hq)
  have hl : ys.length = len := by rw [← h2, hy]; simp
  cases h1
  subst hl
  refine ⟨p0, c0, ys, rfl, h4', fun y hy' => ?_, fun k hk => ?_⟩
  · obtain ⟨i, hi, rfl⟩ := List.mem_iff_getElem.1 hy'
    exact hw i _ _ (List.getElem?_eq_getElem hi) (List.getElem?_eq_getElem (show i < Ds.length by omega))
  · rw [List.flatMap_def, ← hy]
    exact h5 k hk
end
end Go.Proofs.Ytemanjljjlpbgaa
