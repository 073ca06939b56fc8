/- What the laws of layer 11 are handed. -/
import Derived.Test.YtickblndgihoeaaGreatDoorM5
import Derived.Test.YtickblndgihoeaaGreatDoorM37
import Derived.Test.YtickblndgihoeaaGreatDoorM36
set_option linter.unusedSimpArgs false
namespace Go.Proofs.YtickblndgihoeaaGreatDoor
open Go Go.Sp Go.ChangeShapes Go.WideShapes Go.ChangeAt Go.RowKit
theorem ceBool : Tryz.prog.cellsOf 4 = 1 := by kernel_rfl
theorem ceInt : Tryz.prog.cellsOf 3 = 1 := by kernel_rfl
theorem ceInt64 : Tryz.prog.cellsOf 2 = 1 := by kernel_rfl
theorem ceInts : Tryz.prog.cellsOf 26 = 1 := by kernel_rfl
theorem ceEdge : Tryz.prog.cellsOf 55 = 2 := by kernel_rfl
theorem ceType : Tryz.prog.cellsOf 60 = 2 := by kernel_rfl
theorem ceEdges : Tryz.prog.cellsOf 56 = 1 := by kernel_rfl
theorem ceNode : Tryz.prog.cellsOf 58 = 6 := by kernel_rfl
theorem ceNodes : Tryz.prog.cellsOf 22 = 1 := by kernel_rfl
theorem ceParam : Tryz.prog.cellsOf 62 = 3 := by kernel_rfl
theorem ceParams : Tryz.prog.cellsOf 47 = 1 := by kernel_rfl
theorem ceInsn : Tryz.prog.cellsOf 52 = 6 := by kernel_rfl
theorem ceInsns : Tryz.prog.cellsOf 48 = 1 := by kernel_rfl
theorem ceTemplate : Tryz.prog.cellsOf 50 = 3 := by kernel_rfl
theorem ceTemplates : Tryz.prog.cellsOf 23 = 1 := by kernel_rfl
theorem ceTypes : Tryz.prog.cellsOf 24 = 1 := by kernel_rfl
theorem ceArg : Tryz.prog.cellsOf 64 = 3 := by kernel_rfl
theorem ceArgs : Tryz.prog.cellsOf 65 = 1 := by kernel_rfl
theorem ceStart : Tryz.prog.cellsOf 67 = 2 := by kernel_rfl
theorem ceStarts : Tryz.prog.cellsOf 25 = 1 := by kernel_rfl
theorem ceModule : Tryz.prog.cellsOf 28 = 8 := by kernel_rfl
theorem ceTurn11 : Tryz.prog.cellsOf 37 = 2 := by kernel_rfl
theorem wf_i64b {z : Int} (h : (Lit.int .i64 z).wf = true) : -9223372036854775808 ≤ z ∧ z ≤ 9223372036854775807 := by
  simp [Lit.wf, IntKind.min, IntKind.max, IntKind.signed, IntKind.bits] at h
  omega
section
variable {H : Type} {enc : TypeId × Value → H} {W : World} {base : Nat} {sp : Nat → Bool} {held : Bool}
theorem read_bool {t : TypeId} {n : Nat} {cs : List Value} {x : DataW H × List MemPlace} (ht : Tryz.prog.underlying t = some .bool) (h : DataW.trod enc Tryz.prog W base sp held n t cs = some x) : ∃ b : Bool, cs = [.bool b] := by
  obtain ⟨b, h1, _⟩ := DataW.trod_bool ht h
  exact ⟨b, h1⟩
set_option maxRecDepth 20000 in
theorem read_edge {n : Nat} {c : List Value} {D : DataW H × List MemPlace} (h : DataW.trod enc Tryz.prog W base sp held n 55 c = some D) : ∃ e : Int × Int, c = edgeC e := by
  obtain ⟨xs, m, _, hx, hl, hlen, hf⟩ := DataW.trod_struct Tryz.underlying55 (show DataW.trod enc Tryz.prog W base sp held n 55 c = some (D.1, D.2) from h)
  rw [ceEdge] at hl
  match c, hl with
  | [c0, c1], _ =>
  match xs, hlen with
  | [y0, y1], _ =>
    have h0 := hf 0 _ rfl
    have h1 := hf 1 _ rfl
    simp only [ceInt, List.drop, List.take, List.getElem?_cons_zero, List.getElem?_cons_succ] at h0 h1
    obtain ⟨z0, e0, _⟩ := read_int Tryz.underlying3 h0
    obtain ⟨z1, e1, _⟩ := read_int Tryz.underlying3 h1
    cases e0; cases e1
    exact ⟨(z0, z1), rfl⟩
set_option maxRecDepth 20000 in
theorem read_type {n : Nat} {c : List Value} {D : DataW H × List MemPlace} (h : DataW.trod enc Tryz.prog W base sp held n 60 c = some D) : ∃ e : Int × Int, c = edgeC e := by
  obtain ⟨xs, m, _, hx, hl, hlen, hf⟩ := DataW.trod_struct Tryz.underlying60 (show DataW.trod enc Tryz.prog W base sp held n 60 c = some (D.1, D.2) from h)
  rw [ceType] at hl
  match c, hl with
  | [c0, c1], _ =>
  match xs, hlen with
  | [y0, y1], _ =>
    have h0 := hf 0 _ rfl
    have h1 := hf 1 _ rfl
    simp only [ceInt, List.drop, List.take, List.getElem?_cons_zero, List.getElem?_cons_succ] at h0 h1
    obtain ⟨z0, e0, _⟩ := read_int Tryz.underlying3 h0
    obtain ⟨z1, e1, _⟩ := read_int Tryz.underlying3 h1
    cases e0; cases e1
    exact ⟨(z0, z1), rfl⟩
set_option maxRecDepth 20000 in
theorem read_node {n : Nat} {c : List Value} {D : DataW H × List MemPlace} (h : DataW.trod enc Tryz.prog W base sp held n 58 c = some D) : ∃ x : Nod, c = nodC x ∧ (x.next.length ≤ x.a.2 ∧ ∀ k, Base W k → NodR x k) := by
  obtain ⟨xs, m, _, hx, hl, hlen, hf⟩ := DataW.trod_struct Tryz.underlying58 (show DataW.trod enc Tryz.prog W base sp held n 58 c = some (D.1, D.2) from h)
  rw [ceNode] at hl
  match c, hl with
  | [c0, c1, c2, c3, c4, c5], _ =>
  match xs, hlen with
  | [y0, y1, y2, y3, y4], _ =>
    have h0 := hf 0 _ rfl
    have h1 := hf 1 _ rfl
    have h2 := hf 2 _ rfl
    have h3 := hf 3 _ rfl
    have h4 := hf 4 _ rfl
    simp only [ceInt, ceBool, ceEdge, ceEdges, List.drop, List.take, List.getElem?_cons_zero, List.getElem?_cons_succ] at h0 h1 h2 h3 h4
    obtain ⟨z0, e0, _⟩ := read_int Tryz.underlying3 h0
    obtain ⟨z1, e1, _⟩ := read_int Tryz.underlying3 h1
    obtain ⟨z2, e2⟩ := read_bool Tryz.underlying4 h2
    obtain ⟨z3, e3⟩ := read_edge h3
    obtain ⟨p, cap, zs, e4, l1, _, _, l2⟩ := read_row edgeC (fun _ => True) Tryz.underlying56 ceEdge (by decide) (fun m c y _ hy => (read_edge hy).imp fun _ h => ⟨h, trivial⟩) h4
    cases e0; cases e1; cases e2; cases e3; cases e4
    exact ⟨⟨z0, z1, z2, z3, zs, (p, cap)⟩, rfl, l1, l2⟩
set_option maxRecDepth 20000 in
theorem read_param {n : Nat} {c : List Value} {D : DataW H × List MemPlace} (h : DataW.trod enc Tryz.prog W base sp held n 62 c = some D) : ∃ x : Prm, c = prmC x := by
  obtain ⟨xs, m, _, hx, hl, hlen, hf⟩ := DataW.trod_struct Tryz.underlying62 (show DataW.trod enc Tryz.prog W base sp held n 62 c = some (D.1, D.2) from h)
  rw [ceParam] at hl
  match c, hl with
  | [c0, c1, c2], _ =>
  match xs, hlen with
  | [y0, y1], _ =>
    have h0 := hf 0 _ rfl
    have h1 := hf 1 _ rfl
    simp only [ceBool, ceType, List.drop, List.take, List.getElem?_cons_zero, List.getElem?_cons_succ] at h0 h1
    obtain ⟨z0, e0⟩ := read_bool Tryz.underlying4 h0
    obtain ⟨z1, e1⟩ := read_type h1
    cases e0; cases e1
    exact ⟨⟨z0, z1⟩, rfl⟩
set_option maxRecDepth 20000 in
theorem read_arg {n : Nat} {c : List Value} {D : DataW H × List MemPlace} (h : DataW.trod enc Tryz.prog W base sp held n 64 c = some D) : ∃ x : Ar, c = arC x ∧ arOk x := by
  obtain ⟨xs, m, _, hx, hl, hlen, hf⟩ := DataW.trod_struct Tryz.underlying64 (show DataW.trod enc Tryz.prog W base sp held n 64 c = some (D.1, D.2) from h)
  rw [ceArg] at hl
  match c, hl with
  | [c0, c1, c2], _ =>
  match xs, hlen with
  | [y0, y1, y2], _ =>
    have h0 := hf 0 _ rfl
    have h1 := hf 1 _ rfl
    have h2 := hf 2 _ rfl
    simp only [ceBool, ceInt64, ceInt, List.drop, List.take, List.getElem?_cons_zero, List.getElem?_cons_succ] at h0 h1 h2
    obtain ⟨z0, e0⟩ := read_bool Tryz.underlying4 h0
    obtain ⟨z1, e1, _, w1⟩ := read_int Tryz.underlying2 h1
    obtain ⟨z2, e2, _⟩ := read_int Tryz.underlying3 h2
    cases e0; cases e1; cases e2
    exact ⟨⟨z0, z1, z2⟩, rfl, wf_i64b w1⟩
set_option maxRecDepth 20000 in
theorem read_insn11 {n : Nat} {c : List Value} {D : DataW H × List MemPlace} (h : DataW.trod enc Tryz.prog W base sp held n 52 c = some D) : ∃ y : YI, c = insnC y ∧ ((y.1.l.length ≤ y.2.2 ∧ -9223372036854775808 ≤ y.1.a ∧ y.1.a ≤ 9223372036854775807) ∧ ∀ k, Base W k → InsV y k) := by
  obtain ⟨xs, m, _, hx, hl, hlen, hf⟩ := DataW.trod_struct Tryz.underlying52 (show DataW.trod enc Tryz.prog W base sp held n 52 c = some (D.1, D.2) from h)
  rw [ceInsn] at hl
  match c, hl with
  | [c0, c1, c2, c3, c4, c5], _ =>
  match xs, hlen with
  | [y0, y1, y2, y3, y4, y5], _ =>
    have h0 := hf 0 _ rfl
    have h1 := hf 1 _ rfl
    have h2 := hf 2 _ rfl
    have h3 := hf 3 _ rfl
    have h4 := hf 4 _ rfl
    have h5 := hf 5 _ rfl
    simp only [ceInt, ceInt64, ceInts, List.drop, List.take, List.getElem?_cons_zero, List.getElem?_cons_succ] at h0 h1 h2 h3 h4 h5
    obtain ⟨z0, e0, _⟩ := read_int Tryz.underlying3 h0
    obtain ⟨z1, e1, _, w1⟩ := read_int Tryz.underlying2 h1
    obtain ⟨z2, e2, _⟩ := read_int Tryz.underlying3 h2
    obtain ⟨z3, e3, _⟩ := read_int Tryz.underlying3 h3
    obtain ⟨z4, e4, _⟩ := read_int Tryz.underlying3 h4
    obtain ⟨p, cap, zs, Ds, e5, l1, _, l4, l2, _, l3⟩ := read_ints Tryz.underlying26 Tryz.underlying3 ceInt h5
    cases e0; cases e1; cases e2; cases e3; cases e4; cases e5
    exact ⟨(⟨z0, z1, z2, z3, z4, zs⟩, p, cap), rfl, ⟨l4, wf_i64b w1⟩, l2⟩
set_option maxRecDepth 20000 in
theorem read_template {n : Nat} {c : List Value} {D : DataW H × List MemPlace} (h : DataW.trod enc Tryz.prog W base sp held n 50 c = some D) : ∃ x : Tem, c = temC x ∧ ((x.params.length ≤ x.pa.2 ∧ ∀ y ∈ x.code, y.1.l.length ≤ y.2.2 ∧ -9223372036854775808 ≤ y.1.a ∧ y.1.a ≤ 9223372036854775807) ∧ ∀ k, Base W k → TemV x k) := by
  obtain ⟨xs, m, _, hx, hl, hlen, hf⟩ := DataW.trod_struct Tryz.underlying50 (show DataW.trod enc Tryz.prog W base sp held n 50 c = some (D.1, D.2) from h)
  rw [ceTemplate] at hl
  match c, hl with
  | [c0, c1, c2], _ =>
  match xs, hlen with
  | [y0, y1, y2], _ =>
    have h0 := hf 0 _ rfl
    have h1 := hf 1 _ rfl
    have h2 := hf 2 _ rfl
    simp only [ceParams, ceInsns, ceInts, List.drop, List.take, List.getElem?_cons_zero, List.getElem?_cons_succ] at h0 h1 h2
    obtain ⟨p, cap, ps, e0, l1, _, _, l2⟩ := read_row prmC (fun _ => True) Tryz.underlying47 ceParam (by decide) (fun m c y _ hy => (read_param hy).imp fun _ h => ⟨h, trivial⟩) h0
    obtain ⟨p', cap', ys, e1, k1, _, k3, k2⟩ := read_row insnC (fun y => (y.1.l.length ≤ y.2.2 ∧ -9223372036854775808 ≤ y.1.a ∧ y.1.a ≤ 9223372036854775807) ∧ ∀ k, Base W k → InsV y k) Tryz.underlying48 ceInsn (by decide) (fun m c y _ hy => read_insn11 hy) h1
    obtain ⟨p2, cap2, zs, Ds, e2, _⟩ := read_ints Tryz.underlying26 Tryz.underlying3 ceInt h2
    cases e0; cases e1; cases e2
    exact ⟨⟨ps, (p, cap), ys, (p', cap'), zs, (p2, cap2)⟩, rfl, ⟨l1, fun y hy => (k3 y hy).1⟩, fun k hk => ⟨l2 k hk, k2 k hk, fun y hy => (k3 y hy).2 k hk⟩⟩
set_option maxRecDepth 20000 in
theorem read_start {n : Nat} {c : List Value} {D : DataW H × List MemPlace} (h : DataW.trod enc Tryz.prog W base sp held n 67 c = some D) : ∃ x : Sta, c = staC x ∧ ((x.args.length ≤ x.a.2 ∧ ∀ p ∈ x.args, arOk p) ∧ ∀ k, Base W k → StaR x k) := by
  obtain ⟨xs, m, _, hx, hl, hlen, hf⟩ := DataW.trod_struct Tryz.underlying67 (show DataW.trod enc Tryz.prog W base sp held n 67 c = some (D.1, D.2) from h)
  rw [ceStart] at hl
  match c, hl with
  | [c0, c1], _ =>
  match xs, hlen with
  | [y0, y1], _ =>
    have h0 := hf 0 _ rfl
    have h1 := hf 1 _ rfl
    simp only [ceInt, ceArgs, List.drop, List.take, List.getElem?_cons_zero, List.getElem?_cons_succ] at h0 h1
    obtain ⟨z0, e0, _⟩ := read_int Tryz.underlying3 h0
    obtain ⟨p, cap, ps, e1, l1, _, l3, l2⟩ := read_row arC (fun p => arOk p) Tryz.underlying65 ceArg (by decide) (fun m c y _ hy => read_arg hy) h1
    cases e0; cases e1
    exact ⟨⟨z0, ps, (p, cap)⟩, rfl, ⟨l1, l3⟩, l2⟩
set_option maxRecDepth 20000 in
theorem read_module {v : Value} {d : DataW H} {ps : List MemPlace} {r : Go.Reach} {b0 : Nat} (hv : Value.okWide Tryz.prog W r b0 28 v) (h : DataW.Trod enc Tryz.prog W base sp held 28 v d ps) :
    ∃ m : Mdl, v = .agg (modC m).toArray ∧ CapM m ∧ ∀ k, Base W k → RawR m k := by
  obtain ⟨cs, rfl⟩ := ok_agg (.inl ⟨_, Tryz.underlying28⟩) hv
  obtain ⟨n, hn⟩ := h
  obtain ⟨xs, m, _, _, hl, hlen, hf⟩ := DataW.trod_struct Tryz.underlying28 hn
  rw [ceModule] at hl
  have hl' : cs.length = 8 := by simpa [Value.cells] using hl
  match cs, hl' with
  | [c0, c1, c2, c3, c4, c5, c6, c7], _ =>
  match xs, hlen with
  | [y0, y1, y2, y3, y4, y5, y6, y7], _ =>
    have h0 := hf 0 _ rfl
    have h1 := hf 1 _ rfl
    have h2 := hf 2 _ rfl
    have h3 := hf 3 _ rfl
    have h4 := hf 4 _ rfl
    have h5 := hf 5 _ rfl
    have h6 := hf 6 _ rfl
    have h7 := hf 7 _ rfl
    simp only [Value.cells, ceNodes, ceTemplates, ceTypes, ceStarts, ceInts, List.drop, List.take, List.getElem?_cons_zero, List.getElem?_cons_succ] at h0 h1 h2 h3 h4 h5 h6 h7
    obtain ⟨pn, kn, ns, e0, _, _, n3, n2⟩ := read_row nodC (fun x => x.next.length ≤ x.a.2 ∧ ∀ k, Base W k → NodR x k) Tryz.underlying22 ceNode (by decide) (fun m c y _ hy => read_node hy) h0
    obtain ⟨pt', kt, ts, e1, _, _, t3, t2⟩ := read_row temC (fun x => (x.params.length ≤ x.pa.2 ∧ ∀ y ∈ x.code, y.1.l.length ≤ y.2.2 ∧ -9223372036854775808 ≤ y.1.a ∧ y.1.a ≤ 9223372036854775807) ∧ ∀ k, Base W k → TemV x k) Tryz.underlying23 ceTemplate (by decide) (fun m c y _ hy => read_template hy) h1
    obtain ⟨pc, kc, cs', e2, c1', _, _, c2'⟩ := read_row edgeC (fun _ => True) Tryz.underlying24 ceType (by decide) (fun m c y _ hy => (read_type hy).imp fun _ h => ⟨h, trivial⟩) h2
    obtain ⟨ps', ks, ss, e3, _, _, s3, s2⟩ := read_row staC (fun x => (x.args.length ≤ x.a.2 ∧ ∀ p ∈ x.args, arOk p) ∧ ∀ k, Base W k → StaR x k) Tryz.underlying25 ceStart (by decide) (fun m c y _ hy => read_start hy) h3
    obtain ⟨p4, k4, z4, _, e4, _⟩ := read_ints Tryz.underlying26 Tryz.underlying3 ceInt h4
    obtain ⟨p5, k5, z5, _, e5, _⟩ := read_ints Tryz.underlying26 Tryz.underlying3 ceInt h5
    obtain ⟨p6, k6, z6, _, e6, _⟩ := read_ints Tryz.underlying26 Tryz.underlying3 ceInt h6
    obtain ⟨p7, k7, z7, _, e7, _⟩ := read_ints Tryz.underlying26 Tryz.underlying3 ceInt h7
    cases e0; cases e1; cases e2; cases e3; cases e4; cases e5; cases e6; cases e7
    refine ⟨⟨ns, (pn, kn), ts, (pt', kt), cs', (pc, kc), ss, (ps', ks), z4, (p4, k4), z5, (p5, k5), z6, (p6, k6), z7, (p7, k7)⟩, rfl, ⟨fun x hx => (n3 x hx).1, fun x hx => (t3 x hx).1, c1', fun x hx => (s3 x hx).1⟩, fun k hk A hA => ?_⟩
    simp only [rawK, List.mem_cons, List.not_mem_nil, or_false] at hA
    rcases hA with rfl | rfl | rfl | rfl | rfl | rfl | rfl
    · exact n2 k hk
    · exact fun x hx => (n3 x hx).2 k hk
    · exact t2 k hk
    · exact fun x hx => (t3 x hx).2 k hk
    · exact c2' k hk
    · exact s2 k hk
    · exact fun x hx => (s3 x hx).2 k hk
set_option maxRecDepth 20000 in
theorem read_turn11 {v : Value} {d : DataW H} {ps : List MemPlace} {r : Go.Reach} {b0 : Nat} (hv : Value.okWide Tryz.prog W r b0 37 v) (h : DataW.Trod enc Tryz.prog W base sp held 37 v d ps) :
    ∃ (a b : Nat), v = .agg #[.int .u16 (a : Int), .int .u8 (b : Int)] ∧ a < 65536 := by
  obtain ⟨cs, rfl⟩ := ok_agg (.inl ⟨_, Tryz.underlying37⟩) hv
  obtain ⟨n, hn⟩ := h
  obtain ⟨xs, m, _, _, hl, hlen, hf⟩ := DataW.trod_struct Tryz.underlying37 hn
  rw [ceTurn11] at hl
  have hl' : cs.length = 2 := by simpa [Value.cells] using hl
  match cs, hl' with
  | [c0, c1], _ =>
  match xs, hlen with
  | [y0, y1], _ =>
    have h0 := hf 0 _ rfl
    have h1 := hf 1 _ rfl
    simp only [Value.cells, List.getElem?_cons_zero, List.getElem?_cons_succ] at h0 h1
    obtain ⟨a, e0, _, w0⟩ := read_int Tryz.underlying35 h0
    obtain ⟨b, e1, _, w1⟩ := read_int Tryz.underlying5 h1
    obtain ⟨a', rfl, ha⟩ := wf_u16 w0
    obtain ⟨b', rfl, hb⟩ := wf_u8 w1
    cases e0; cases e1
    exact ⟨a', b', rfl, ha⟩
end
end Go.Proofs.YtickblndgihoeaaGreatDoor

/- Layer 11: how long what is laid may be; what was read is small. -/
namespace Go.Proofs.YtickblndgihoeaaGreatDoor
open Go Go.Sp
theorem listO_mem {α : Type} {o : α → OB} {least most : Int} {l : List α} {b : List UInt8} (h : listO least most o l = some b) : least ≤ (l.length : Int) ∧ (l.length : Int) ≤ most ∧ ∃ a r, numO l.length most = some a ∧ mapO o l = some r ∧ b = a ++ r := by
  unfold listO at h
  split at h
  · rename_i h0
    obtain ⟨a, r, h1, h2, h3⟩ := catO_iff.1 h
    exact ⟨h0, (numO_le h1).2, a, r, h1, h2, h3⟩
  · cases h
theorem mapO_mem {α : Type} {o : α → OB} : ∀ {l : List α} {b : List UInt8}, mapO o l = some b → ∀ x ∈ l, ∃ c, o x = some c
  | [], _, _, x, hx => by cases hx
  | y :: l, b, h, x, hx => by
    obtain ⟨a, r, h1, h2, h3⟩ := catO_iff.1 (show catO (o y) (mapO o l) = some b from h)
    rcases List.mem_cons.1 hx with rfl | hx
    · exact ⟨a, h1⟩
    · exact mapO_mem h2 x hx
theorem LeO.num2 {n m : Int} (hm : m ≤ 16383) : LeO (numO n m) 2 := fun bs h => by
  have h1 := numO_le h
  unfold numO at h
  rw [if_pos h1] at h
  cases h
  exact enc_len (k := 1) (by rw [show (128 : Nat) ^ (1 + 1) = 16384 from by decide]; omega)
theorem LeO.must0 {b : Bool} : LeO (mustO b) 0 := by
  cases b
  · exact LeO.none
  · exact fun _ h => by cases h; simp
theorem LeO.prm {p : Prm} : LeO (prmO p) 5 := by
  obtain ⟨ch, e⟩ := p
  have hf : ∀ b, LeO (flagO b) 1 := fun b x h => by cases h; simp
  cases ch with
  | true => rw [prmO_t]; exact (hf true).cat ((LeO.num2 (by decide)).cat (LeO.num2 (by decide)))
  | false => rw [prmO_f]; exact ((hf false).cat LeO.must0).mono (by decide)
theorem LeO.ins {y : YI} (ha : -9223372036854775808 ≤ y.1.a ∧ y.1.a ≤ 9223372036854775807) : LeO (insO y) 131 := fun bs h => by
  rcases chk_cases y.1 with h0 | ⟨n, h24, hn, hf, h0⟩
  · rw [insO_bad h0] at h; cases h
  · rw [insO_ok hn h0] at h
    cases h
    exact (bytes_len h24 hn hf ha).1
theorem LeO.tem {t : Tem} (ht : temOk t) : LeO (temO t) (20 + 5 * t.params.length + 131 * t.code.length) := by
  have h1 : LeO (listO 0 8 prmO t.params) (10 + costs (fun _ => 5) t.params) := LeO.list (by decide) fun x _ => LeO.prm
  have h2 : LeO (listO 1 128 insO t.code) (10 + costs (fun _ => 131) t.code) := LeO.list (by decide) fun x hx => LeO.ins (ht x hx)
  have e1 := costs_le (f := fun _ : Prm => 5) (b := 5) (l := t.params) fun _ _ => Nat.le_refl _
  have e2 := costs_le (f := fun _ : YI => 131) (b := 131) (l := t.code) fun _ _ => Nat.le_refl _
  exact (h1.cat h2).mono (by omega)
/-- What is laid of a module whose lists are cut fits into its sections. -/
theorem few_fits {m : Mdl} (h : FewM m) {x y z : List UInt8} (h1 : sec1O m = some x) (h2 : sec2O m = some y) (h3 : sec3O m = some z) : x.length ≤ 65536 ∧ y.length ≤ 65536 ∧ z.length ≤ 65536 := by
  have hok := ok_few h
  obtain ⟨⟨n1, n2⟩, ⟨t1, t2⟩, c1, ⟨s1, s2⟩, _⟩ := h
  refine ⟨?_, ?_, ?_⟩
  · have e1 : costs costN m.nodes ≤ m.nodes.length * 300 := costs_le fun x hx => by
      have h1 := costs_le (f := fun _ : Int × Int => 20) (b := 20) (l := x.next) (fun _ _ => Nat.le_refl _)
      have := n2 x hx
      unfold costN; omega
    have := (LeO.list (cost := costN) (by decide) fun x _ => (fun _ hb => nodeO_len hb)) x h1
    omega
  · have hl := (listO_mem h2).2.1
    have e1 : costs (fun t : Tem => 20 + 5 * t.params.length + 131 * t.code.length) m.temps ≤ m.temps.length * 4000 := costs_le fun x hx => by
      have := t2 x hx
      omega
    have := (LeO.list (cost := fun t : Tem => 20 + 5 * t.params.length + 131 * t.code.length) (by decide) fun x hx => LeO.tem (hok.1 x hx)) y h2
    omega
  · have e1 := costs_le (f := fun _ : Int × Int => 20) (b := 20) (l := m.chans) fun _ _ => Nat.le_refl _
    have e2 : costs costS m.starts ≤ m.starts.length * 330 := costs_le fun x hx => by
      have h1 := costs_le (f := fun _ : Ar => 30) (b := 30) (l := x.args) (fun _ _ => Nat.le_refl _)
      have := s2 x hx
      unfold costS; omega
    have := ((LeO.list (cost := fun _ : Int × Int => 20) (by decide) fun _ _ => LeO.edge).cat (LeO.list (cost := costS) (by decide) fun x hx => staO_len (hok.2 x hx))) z h3
    omega
theorem one_len {l : List (Int × Int)} {b : List UInt8} (h : oneO l = some b) : l.length = 1 := by
  rcases l with _ | ⟨e, _ | ⟨e', l⟩⟩
  · cases h
  · rfl
  · cases h
theorem node_few {n : Nod} {b : List UInt8} (h : nodeO n = some b) : n.next.length ≤ 8 := by
  unfold nodeO at h
  split at h
  · obtain ⟨_, _, _, h, _⟩ := catO_iff.1 h
    obtain ⟨_, _, _, h, _⟩ := catO_iff.1 h
    obtain ⟨_, _, _, h, _⟩ := catO_iff.1 h
    obtain ⟨_, _, _, h, _⟩ := catO_iff.1 h
    have := of_decide_eq_true (mustO_iff.1 h).1
    omega
  split at h
  · obtain ⟨_, _, _, h, _⟩ := catO_iff.1 h
    obtain ⟨_, _, _, h, _⟩ := catO_iff.1 h
    obtain ⟨_, _, _, h, _⟩ := catO_iff.1 h
    obtain ⟨_, _, _, h, _⟩ := catO_iff.1 h
    have := one_len h
    omega
  split at h
  · obtain ⟨_, _, _, h, _⟩ := catO_iff.1 h
    obtain ⟨_, _, _, h, _⟩ := catO_iff.1 h
    obtain ⟨_, _, _, h, _⟩ := catO_iff.1 h
    obtain ⟨_, _, _, h, _⟩ := catO_iff.1 h
    obtain ⟨_, _, _, h, _⟩ := catO_iff.1 h
    have := one_len h
    omega
  split at h
  · obtain ⟨_, _, _, h, _⟩ := catO_iff.1 h
    obtain ⟨_, _, _, h, _⟩ := catO_iff.1 h
    obtain ⟨_, _, _, h, _⟩ := catO_iff.1 h
    obtain ⟨_, _, _, h, _⟩ := catO_iff.1 h
    have := (listO_mem h).2.1
    omega
  · cases h
theorem sec_small {m : Mdl} {x y z : List UInt8} (h1 : sec1O m = some x) (h2 : sec2O m = some y) (h3 : sec3O m = some z) : smallM m ∧ BndM m := by
  obtain ⟨_, n1, _, n2, _, n3, _⟩ := listO_mem (show listO 0 64 nodeO m.nodes = some x from h1)
  obtain ⟨_, t1, _, t2, _, t3, _⟩ := listO_mem (show listO 0 16 temO m.temps = some y from h2)
  obtain ⟨_, _, h4, h5, _⟩ := catO_iff.1 (show catO (listO 0 16 edgeO m.chans) (listO 0 8 staO m.starts) = some z from h3)
  obtain ⟨_, c1, _, _, _, _, _⟩ := listO_mem h4
  obtain ⟨_, s1, _, s2, _, s3, _⟩ := listO_mem h5
  have fn : ∀ n ∈ m.nodes, n.next.length ≤ 8 := fun n hn => by
    obtain ⟨c, hc⟩ := mapO_mem n3 n hn
    exact node_few hc
  have ft : ∀ t ∈ m.temps, t.params.length ≤ 8 ∧ t.code.length ≤ 128 := fun t ht => by
    obtain ⟨c, hc⟩ := mapO_mem t3 t ht
    obtain ⟨_, _, k1, k2, _⟩ := catO_iff.1 (show catO (listO 0 8 prmO t.params) (listO 1 128 insO t.code) = some c from hc)
    have := (listO_mem k1).2.1
    have := (listO_mem k2).2.1
    omega
  have fs : ∀ s ∈ m.starts, s.args.length ≤ 8 := fun s hs => by
    obtain ⟨c, hc⟩ := mapO_mem s3 s hs
    obtain ⟨_, _, k1, k2, _⟩ := catO_iff.1 (show catO (numO s.tm 15) (listO 0 8 arO s.args) = some c from hc)
    have := (listO_mem k2).2.1
    omega
  have e1 : costs costN m.nodes ≤ m.nodes.length * 260 := costs_le fun x hx => by
    have h1 := costs_le (f := fun _ : Int × Int => 20) (b := 20) (l := x.next) (fun _ _ => Nat.le_refl _)
    have := fn x hx
    unfold costN; omega
  have e2 : costs costT m.temps ≤ m.temps.length * 18190 := costs_le fun x hx => by
    have h1 := costs_le (f := fun _ : Prm => 30) (b := 30) (l := x.params) (fun _ _ => Nat.le_refl _)
    have h2 := costs_le (f := fun _ : YI => 140) (b := 140) (l := x.code) (fun _ _ => Nat.le_refl _)
    have := ft x hx
    unfold costT; omega
  have e3 : costs (fun _ : Int × Int => 20) m.chans ≤ m.chans.length * 20 := costs_le fun _ _ => Nat.le_refl _
  have e4 : costs costS m.starts ≤ m.starts.length * 270 := costs_le fun x hx => by
    have h1 := costs_le (f := fun _ : Ar => 30) (b := 30) (l := x.args) (fun _ _ => Nat.le_refl _)
    have := fs x hx
    unfold costS; omega
  refine ⟨⟨?_, ?_, ?_, ?_⟩, ⟨by omega, fun x hx => ?_⟩, ⟨by omega, fun x hx => ?_⟩, by omega, ⟨by omega, fun x hx => ?_⟩⟩
  · omega
  · omega
  · omega
  · omega
  · have := fn x hx; omega
  · have := ft x hx; omega
  · have := fs x hx; omega
/-- Laying a module whose lists are cut: its bytes, or that it cannot be laid. -/
theorem put_few (m : Mdl) (h : FewM m) : (∃ x y z, sec1O m = some x ∧ sec2O m = some y ∧ sec3O m = some z ∧ (x.length ≤ 65536 ∧ y.length ≤ 65536 ∧ z.length ≤ 65536) ∧ Ct Tryz.prog 9 #[.agg (modC m).toArray] [ModR m] (RetV (.tuple #[str (joinL x y z), .int .i64 0]) [ModR m])) ∨
    ((sec1O m = none ∨ sec2O m = none ∨ sec3O m = none) ∧ Ct Tryz.prog 9 #[.agg (modC m).toArray] [ModR m] (RetV (.tuple #[str [], .int .i64 2]) [ModR m])) := by
  cases h1 : sec1O m with
  | none => exact .inr ⟨.inl rfl, put11_bad m (small_few h) (.inl h1)⟩
  | some x =>
    cases h2 : sec2O m with
    | none => exact .inr ⟨.inr (.inl rfl), put11_bad m (small_few h) (.inr (.inl h2))⟩
    | some y =>
      cases h3 : sec3O m with
      | none => exact .inr ⟨.inr (.inr rfl), put11_bad m (small_few h) (.inr (.inr h3))⟩
      | some z =>
        have hl := few_fits h h1 h2 h3
        have := put11_ok m (small_few h) h1 h2 h3 (by omega) (by omega) (by omega)
        unfold joinA at this
        rw [if_pos hl] at this
        exact .inl ⟨x, y, z, rfl, rfl, rfl, hl, this⟩
theorem joinL_few {x y z : List UInt8} (h : x.length ≤ 65536 ∧ y.length ≤ 65536 ∧ z.length ≤ 65536) : (joinL x y z).length ≤ 300000 := by
  obtain ⟨h1, h2, h3⟩ := h
  have g1 := enc_len10 (n := x.length) (by omega)
  have g2 := enc_len10 (n := y.length) (by omega)
  have g3 := enc_len10 (n := z.length) (by omega)
  simp only [joinL, secL, headL, List.length_append, List.length_cons, List.length_nil]
  omega
end Go.Proofs.YtickblndgihoeaaGreatDoor

/- Layer 11: where the things of a module that was read stand. -/
namespace Go.Proofs.YtickblndgihoeaaGreatDoor
open Go Go.Sp
/-- Places that go up, from lo on, all below hi. -/
def AscI : Int → List Int → Int → Prop
  | lo, [], hi => lo ≤ hi
  | lo, p :: ps, hi => lo ≤ p ∧ AscI (p + 1) ps hi
theorem asc_le : ∀ {ps : List Int} {lo hi : Int}, AscI lo ps hi → lo ≤ hi
  | [], _, _, h => h
  | p :: ps, lo, hi, h => by have h1 := h.1; have := asc_le h.2; omega
theorem asc_lo : ∀ {ps : List Int} {lo lo' hi : Int}, lo' ≤ lo → AscI lo ps hi → AscI lo' ps hi
  | [], lo, lo', hi, hl, h => by have : lo ≤ hi := h; show lo' ≤ hi; omega
  | p :: ps, lo, lo', hi, hl, h => ⟨by have := h.1; omega, h.2⟩
theorem asc_hi : ∀ {ps : List Int} {lo hi hi' : Int}, hi ≤ hi' → AscI lo ps hi → AscI lo ps hi'
  | [], lo, hi, hi', hl, h => by have : lo ≤ hi := h; show lo ≤ hi'; omega
  | p :: ps, lo, hi, hi', hl, h => ⟨h.1, asc_hi hl h.2⟩
theorem asc_app : ∀ {ps qs : List Int} {lo mid hi : Int}, AscI lo ps mid → AscI mid qs hi → AscI lo (ps ++ qs) hi
  | [], qs, lo, mid, hi, h, g => asc_lo h g
  | p :: ps, qs, lo, mid, hi, h, g => ⟨h.1, asc_app h.2 g⟩
theorem asc_plc {α : Type} {o : α → OB} (h1 : ∀ x b, o x = some b → 1 ≤ b.length) : ∀ {l : List α} {r : List UInt8} (P : Int), mapO o l = some r → AscI P (plcO o l P) (P + r.length)
  | [], r, P, h => by cases h; show P ≤ P + _; simp
  | x :: l, r, P, h => by
    obtain ⟨a, c, g1, g2, rfl⟩ := catO_iff.1 (show catO (o x) (mapO o l) = some r from h)
    have := h1 x a g1
    have e : lenO (o x) = (a.length : Int) := by rw [g1]; rfl
    refine ⟨Int.le_refl _, ?_⟩
    show AscI (P + 1) (plcO o l (P + lenO (o x))) _
    rw [e, List.length_append]
    exact asc_lo (by omega) (asc_hi (by omega) (asc_plc h1 (P + a.length) g2))
theorem plc_len {α : Type} {o : α → OB} : ∀ (l : List α) (P : Int), (plcO o l P).length = l.length
  | [], _ => rfl
  | x :: l, P => by simp [plcO, plc_len l]
theorem plc_at {α : Type} {o : α → OB} : ∀ {l : List α} {r : List UInt8} {k : Nat} {x : α} (P : Int), mapO o l = some r → l[k]? = some x → ∃ pre b post, r = pre ++ (b ++ post) ∧ o x = some b ∧ (plcO o l P)[k]? = some (P + pre.length)
  | [], r, k, x, P, h, hx => by simp at hx
  | y :: l, r, 0, x, P, h, hx => by
    obtain ⟨a, c, g1, g2, rfl⟩ := catO_iff.1 (show catO (o y) (mapO o l) = some r from h)
    simp only [List.getElem?_cons_zero, Option.some.injEq] at hx
    subst hx
    exact ⟨[], a, c, rfl, g1, by simp [plcO]⟩
  | y :: l, r, k + 1, x, P, h, hx => by
    obtain ⟨a, c, g1, g2, rfl⟩ := catO_iff.1 (show catO (o y) (mapO o l) = some r from h)
    have e : lenO (o y) = (a.length : Int) := by rw [g1]; rfl
    obtain ⟨pre, b, post, rfl, k2, k3⟩ := plc_at (P + a.length) g2 (show l[k]? = some x by simpa using hx)
    refine ⟨a ++ pre, b, post, by simp, k2, ?_⟩
    show (plcO o l (P + lenO (o y)))[k]? = _
    rw [e, k3, List.length_append]
    congr 1
    omega
theorem numO_pos {n m : Int} {b : List UInt8} (h : numO n m = some b) : 1 ≤ b.length := by
  have h1 := numO_le h
  unfold numO at h
  rw [if_pos h1] at h
  cases h
  unfold encI
  rw [encU]
  split <;> simp
theorem cat_pos {x y : OB} (hx : ∀ b, x = some b → 1 ≤ b.length) {b : List UInt8} (h : catO x y = some b) : 1 ≤ b.length := by
  obtain ⟨a, c, h1, _, rfl⟩ := catO_iff.1 h
  have := hx a h1
  rw [List.length_append]; omega
theorem list_pos {α : Type} {o : α → OB} {least most : Int} {l : List α} {b : List UInt8} (h : listO least most o l = some b) : 1 ≤ b.length := by
  obtain ⟨_, _, a, r, h1, _, rfl⟩ := listO_mem h
  have := numO_pos h1
  rw [List.length_append]; omega
theorem node_pos (n : Nod) (b : List UInt8) (h : nodeO n = some b) : 1 ≤ b.length := by
  unfold nodeO at h
  split at h
  · exact cat_pos (fun _ h => numO_pos h) h
  split at h
  · exact cat_pos (fun _ h => numO_pos h) h
  split at h
  · exact cat_pos (fun _ h => numO_pos h) h
  split at h
  · exact cat_pos (fun _ h => numO_pos h) h
  · cases h
theorem edge_pos (e : Int × Int) (b : List UInt8) (h : edgeO e = some b) : 1 ≤ b.length := cat_pos (fun _ h => numO_pos h) (show catO (numO e.1 63) (numO e.2 1000) = some b from h)
theorem sta_pos (s : Sta) (b : List UInt8) (h : staO' s = some b) : 1 ≤ b.length := by
  unfold staO' at h
  split at h
  · exact cat_pos (fun _ h => numO_pos h) (show catO (numO s.tm 15) (listO 0 8 arO s.args) = some b from h)
  · cases h
theorem tem_pos (t : Tem) (b : List UInt8) (h : temO' t = some b) : 1 ≤ b.length := by
  rw [temO'_eq (temO'_ok h)] at h
  exact cat_pos (fun _ h => list_pos h) h
theorem ins_head (y : YI) (b : List UInt8) (h : insO' y = some b) : ∃ (n : Nat) (t : List UInt8), n ≤ 24 ∧ y.1.op = (n : Int) ∧ b = UInt8.ofNat n :: t := by
  unfold insO' at h
  split at h
  · rcases chk_cases y.1 with h0 | ⟨n, h24, hn, hf, h0⟩
    · rw [insO_bad h0] at h; cases h
    · rw [insO_ok hn h0] at h
      cases h
      unfold bytesL
      exact ⟨n, _, h24, hn, by rw [hn, Int.toNat_natCast]⟩
  · cases h
theorem ins_pos (y : YI) (b : List UInt8) (h : insO' y = some b) : 1 ≤ b.length := by
  obtain ⟨n, t, _, _, rfl⟩ := ins_head y b h
  simp
theorem many_at {α : Type} {rd : Rdr α} : ∀ {n : Nat} {bs : List UInt8} {pl : Int} {z : List α × List Int} {bs' : List UInt8} {pl' : Int}, manyR rd n bs pl = .ok z bs' pl' → ∀ (k : Nat) (x : α), z.1[k]? = some x → ∃ p b b' p', z.2[k]? = some p ∧ rd b p = .ok x b' p'
  | 0, bs, pl, z, bs', pl', h, k, x, hx => by cases h; simp at hx
  | n + 1, bs, pl, z, bs', pl', h, k, x, hx => by
    have h : (rd bs pl).bind (fun x bs1 pl1 => (manyR rd n bs1 pl1).bind fun z bs2 pl2 => .ok (x :: z.1, pl :: z.2) bs2 pl2) = .ok z bs' pl' := h
    obtain ⟨y, bs1, pl1, h1, h2⟩ := bind_inv h
    obtain ⟨z1, bs2, pl2, h3, h4⟩ := bind_inv h2
    cases h4
    cases k with
    | zero => simp at hx; subst hx; exact ⟨pl, bs, bs1, pl1, rfl, h1⟩
    | succ k => exact many_at h3 k x (by simpa using hx)
theorem sev_at {α : Type} {rd : Rdr α} {least most : Int} {bs : List UInt8} {pl : Int} {z : List α × List Int} {bs' : List UInt8} {pl' : Int} (h : sevR least most rd bs pl = .ok z bs' pl') (k : Nat) (x : α) (hx : z.1[k]? = some x) : ∃ p b b' p', z.2[k]? = some p ∧ rd b p = .ok x b' p' := by
  unfold sevR at h
  obtain ⟨n, b1, p1, h1, h2⟩ := bind_inv h
  split at h2
  · cases h2
  · exact many_at h2 k x hx
theorem taken_at {s : List UInt8} {m : Mdl} {bs : List UInt8} {pl : Int} (h : takenM s = .ok m bs pl) (k : Nat) (t : Tem) (ht : m.temps[k]? = some t) : ∃ p, m.tat[k]? = some p ∧ t.at_ = plcO insO' t.code (codeAt t p) := by
  unfold takenM at h
  split at h
  · cases h
  · obtain ⟨z1, b1, p1, g1, f1⟩ := bind_inv h
    obtain ⟨_, _, _, g2, f2⟩ := bind_inv f1
    obtain ⟨z2, b2, p2, g3, f3⟩ := bind_inv f2
    obtain ⟨_, _, _, g4, f4⟩ := bind_inv f3
    obtain ⟨z3, b3, p3, g5, f5⟩ := bind_inv f4
    obtain ⟨z4, b4, p4, g6, f6⟩ := bind_inv f5
    obtain ⟨_, _, _, g7, f7⟩ := bind_inv f6
    cases f7
    obtain ⟨p, _, _, _, h1, h2⟩ := sev_at g3 k t ht
    exact ⟨p, h1, (temR_ok h2).2⟩
/-- What is known of a module that was read from these bytes. -/
structure TakenF (s : List UInt8) (m : Mdl) : Prop where
  lens : m.nat.length = m.nodes.length ∧ m.tat.length = m.temps.length ∧ m.cat.length = m.chans.length ∧ m.sat.length = m.starts.length
  asc : AscI 1 (m.nat ++ m.tat ++ m.cat ++ m.sat) s.length
  at_ : ∀ (k : Nat) (t : Tem), m.temps[k]? = some t → ∃ p, m.tat[k]? = some p ∧ t.at_.length = t.code.length ∧ AscI (p + 1) t.at_ s.length ∧ ∀ (j : Nat) (y : YI), t.code[j]? = some y → ∃ i : Nat, t.at_[j]? = some (i : Int) ∧ ∃ c : UInt8, s[i]? = some c ∧ y.1.op = (c.toNat : Int)
theorem get_mid (A B : List UInt8) (c : UInt8) : (A ++ c :: B)[A.length]? = some c := by simp
theorem taken_facts {s : List UInt8} {m : Mdl} {bs : List UInt8} {pl : Int} (h : takenM s = .ok m bs pl) : TakenF s m := by
  obtain ⟨x, y, z, rfl, ⟨hx, hy, hz⟩, h1, h2, h3, hok, ⟨q1, q2, q3, q4⟩, _⟩ := taken_inv h
  have hat := taken_at h
  rw [sec2O_eq hok] at h2
  rw [sec3O_eq hok] at h3
  obtain ⟨_, _, a1, r1, n1, m1, rfl⟩ := listO_mem (show listO 0 64 nodeO m.nodes = some x from h1)
  obtain ⟨_, _, a2, r2, n2, m2, rfl⟩ := listO_mem h2
  obtain ⟨zc, zs, hc, hs, rfl⟩ := catO_iff.1 h3
  have hcl : lenO (listO 0 16 edgeO m.chans) = (zc.length : Int) := by rw [hc]; rfl
  obtain ⟨_, _, a3, r3, n3, m3, rfl⟩ := listO_mem hc
  obtain ⟨_, _, a4, r4, n4, m4, rfl⟩ := listO_mem hs
  have e1 : lenO (numO m.nodes.length 64) = (a1.length : Int) := by rw [n1]; rfl
  have e2 : lenO (numO m.temps.length 16) = (a2.length : Int) := by rw [n2]; rfl
  have e3 : lenO (numO m.chans.length 16) = (a3.length : Int) := by rw [n3]; rfl
  have e4 : lenO (numO m.starts.length 8) = (a4.length : Int) := by rw [n4]; rfl
  rw [e1] at q1
  rw [e2] at q2
  rw [e3] at q3
  rw [hcl, e4] at q4
  have l1 : (secL 1 (a1 ++ r1)).length = 1 + (encU (a1 ++ r1).length).length + (a1 ++ r1).length := by simp only [secL, List.length_cons, List.length_append]; omega
  have l2 : (secL 2 (a2 ++ r2)).length = 1 + (encU (a2 ++ r2).length).length + (a2 ++ r2).length := by simp only [secL, List.length_cons, List.length_append]; omega
  have l3 : (secL 3 ((a3 ++ r3) ++ (a4 ++ r4))).length = 1 + (encU ((a3 ++ r3) ++ (a4 ++ r4)).length).length + ((a3 ++ r3) ++ (a4 ++ r4)).length := by simp only [secL, List.length_cons, List.length_append]; omega
  have lt : (joinL (a1 ++ r1) (a2 ++ r2) ((a3 ++ r3) ++ (a4 ++ r4))).length = 5 + (secL 1 (a1 ++ r1)).length + (secL 2 (a2 ++ r2)).length + (secL 3 ((a3 ++ r3) ++ (a4 ++ r4))).length := by
    unfold joinL
    simp only [List.length_append, headL, List.length_cons, List.length_nil]
    omega
  have hS : joinL (a1 ++ r1) (a2 ++ r2) ((a3 ++ r3) ++ (a4 ++ r4)) = (headL ++ secL 1 (a1 ++ r1) ++ [2] ++ encU (a2 ++ r2).length) ++ ((a2 ++ r2) ++ secL 3 ((a3 ++ r3) ++ (a4 ++ r4))) := by
    unfold joinL
    simp [secL]
  have hA : (headL ++ secL 1 (a1 ++ r1) ++ [2] ++ encU (a2 ++ r2).length).length = 6 + (secL 1 (a1 ++ r1)).length + (encU (a2 ++ r2).length).length := by
    simp only [List.length_append, headL, List.length_cons, List.length_nil]
    omega
  generalize hhd : headL ++ secL 1 (a1 ++ r1) ++ [2] ++ encU (a2 ++ r2).length = hd at hS hA
  generalize hs1 : (secL 1 (a1 ++ r1)).length = s1 at *
  generalize hs2 : (secL 2 (a2 ++ r2)).length = s2 at *
  generalize hs3 : (secL 3 ((a3 ++ r3) ++ (a4 ++ r4))).length = s3 at *
  generalize hu1 : (encU (a1 ++ r1).length).length = u1 at *
  generalize hu2 : (encU (a2 ++ r2).length).length = u2 at *
  generalize hu3 : (encU ((a3 ++ r3) ++ (a4 ++ r4)).length).length = u3 at *
  have k1 := asc_plc node_pos (6 + (u1 : Int) + a1.length) m1
  have k2 := asc_plc tem_pos (6 + (s1 : Int) + u2 + a2.length) m2
  have k3 := asc_plc edge_pos (6 + (s1 : Int) + s2 + u3 + a3.length) m3
  have k4 := asc_plc sta_pos (6 + (s1 : Int) + s2 + u3 + (a3 ++ r3).length + a4.length) m4
  rw [← q1] at k1
  rw [← q2] at k2
  rw [← q3] at k3
  rw [← q4] at k4
  simp only [List.length_append] at l1 l2 l3 k1 k2 k3 k4
  have hlen : ((joinL (a1 ++ r1) (a2 ++ r2) ((a3 ++ r3) ++ (a4 ++ r4))).length : Int) = 5 + (s1 : Int) + s2 + s3 := by rw [lt]; omega
  refine ⟨⟨by rw [q1, plc_len], by rw [q2, plc_len], by rw [q3, plc_len], by rw [q4, plc_len]⟩, ?_, fun k t ht => ?_⟩
  · rw [hlen]
    refine asc_app (mid := 6 + (s1 : Int) + s2 + u3 + (a3.length + r3.length)) (asc_app (mid := 6 + (s1 : Int) + u2 + (a2.length + r2.length)) (asc_app (mid := 6 + (u1 : Int) + (a1.length + r1.length)) ?_ ?_) ?_) ?_
    · exact asc_lo (by omega) (asc_hi (by omega) k1)
    · exact asc_lo (by omega) (asc_hi (by omega) k2)
    · exact asc_lo (by omega) (asc_hi (by omega) k3)
    · exact asc_lo (by omega) (asc_hi (by omega) k4)
  · obtain ⟨p, hp, ha⟩ := hat k t ht
    obtain ⟨pre, b, post, hr2, hb, hpp⟩ := plc_at (6 + (s1 : Int) + u2 + a2.length) m2 ht
    rw [← q2, hp] at hpp
    obtain rfl := Option.some.inj hpp
    rw [temO'_eq (temO'_ok hb)] at hb
    obtain ⟨pp, cc, hpa, hco, rfl⟩ := catO_iff.1 hb
    obtain ⟨_, _, nn, rr, hn, hrr, rfl⟩ := listO_mem hco
    have c1 : codeAt t (6 + (s1 : Int) + u2 + a2.length + pre.length) = 6 + (s1 : Int) + u2 + a2.length + pre.length + pp.length + nn.length := by
      unfold codeAt
      rw [hpa, hn]; rfl
    rw [c1] at ha
    have hnn := numO_pos hn
    have hr2l := congrArg List.length hr2
    simp only [List.length_append] at hr2l
    refine ⟨_, hp, by rw [ha, plc_len], ?_, fun j y hy => ?_⟩
    · have ka := asc_plc ins_pos (6 + (s1 : Int) + u2 + a2.length + pre.length + pp.length + nn.length) hrr
      rw [← ha] at ka
      exact asc_lo (by omega) (asc_hi (by omega) ka)
    · obtain ⟨pre', b', post', hrr', hb', hp'⟩ := plc_at (6 + (s1 : Int) + u2 + a2.length + pre.length + pp.length + nn.length) hrr hy
      rw [← ha] at hp'
      obtain ⟨n, tl, h24, hop, rfl⟩ := ins_head y b' hb'
      refine ⟨(hd ++ (a2 ++ (pre ++ (pp ++ (nn ++ pre'))))).length, ?_, UInt8.ofNat n, ?_, ?_⟩
      · rw [hp']
        simp only [List.length_append, hA]
        congr 1
        omega
      · have e : joinL (a1 ++ r1) (a2 ++ r2) ((a3 ++ r3) ++ (a4 ++ r4)) = (hd ++ (a2 ++ (pre ++ (pp ++ (nn ++ pre'))))) ++ UInt8.ofNat n :: (tl ++ post' ++ post ++ secL 3 ((a3 ++ r3) ++ (a4 ++ r4))) := by
          rw [hS, hr2, hrr']
          simp
        rw [e]
        exact get_mid _ _ _
      · rw [hop, UInt8.toNat_ofNat_of_lt' (Nat.lt_of_le_of_lt h24 (by decide))]
theorem facts_er {s : List UInt8} {m : Mdl} (h : TakenF s (erM m)) : TakenF s m := by
  obtain ⟨h1, h2, h3⟩ := h
  refine ⟨by simpa [erM] using h1, h2, fun k t ht => ?_⟩
  obtain ⟨p, k1, k2, k3, k4⟩ := h3 k (erT t) (by simp [erM, ht])
  refine ⟨p, k1, by simpa [erT] using k2, k3, fun j y hy => ?_⟩
  obtain ⟨i, g1, c, g2, g3⟩ := k4 j (erY y) (by simp [erT, hy])
  exact ⟨i, g1, c, g2, g3⟩
end Go.Proofs.YtickblndgihoeaaGreatDoor

/- A part of a tuple, in a drawn region. -/
namespace Go.Sp
open Go.RowKit
section
variable {P : Program} {N : Nat} {E : Env} {D : List Deferred} {L : List HP}
variable {d : Option Nat} {ty : TypeId} {pos : String} {after : Array Edge} {g : Option (Nat × Bool)}
end
end Go.Sp

/- An empty literal row, owned. -/
namespace Go.Sp
open Go.RowKit
section
variable {P : Program} {N : Nat} {rd : Option Nat} {E : Env} {D : List Deferred} {L : List HP} {Q : Post} {next : Env → List Deferred → List HP → Prop}
variable {d : Option Nat} {ty : TypeId} {pos : String} {after : Array Edge} {g : Option (Nat × Bool)}
theorem JO_emptyO {t e : TypeId} [TU P t (.slice e)] {z : Value} {sz k : Nat} [TI P e z sz k] {parts : Array (Nat × Operand)} (hp : inOrder parts.toList 0 = some []) (hd : dok N d = true)
    (h : ∀ v : Value, v.oneCell' = true → next (put E d v) D (OwnS e sz v 0 [] :: L)) : JO P N rd ⟨d, .buildSlice t 0 parts, ty, pos, after, g⟩ E D L next Q := by
  have hc : Cat ([] : List Value) sz [] := ⟨fun u hu => by simp at hu, rfl⟩
  refine JO_weak (next := fun E' D' L' => ∃ r, E' = put E d (.slice (some ⟨r, 0, none⟩) 0 0) ∧ D' = D ∧ L' = pt r (.cells ([] : List Value).toArray e (0, 0)) :: L) (JO_buildSlice (n := sz) (vs := []) (cs := []) (hc := hc) hp rfl rfl (by omega) hd (fun r => ⟨r, rfl, rfl, rfl⟩)) ?_
  rintro E' D' L' ⟨r, rfl, rfl, rfl⟩
  refine ⟨_, ?_, h _ (by simp [Value.oneCell'])⟩
  exact ent_own (sz := sz) (n := 0) (cap := 0) (by simp) (Nat.le_refl _) (by decide) (by simp)
end
theorem ints_app (a b : List Int) : ints (a ++ b) = ints a ++ ints b := by unfold ints; simp
end Go.Sp
