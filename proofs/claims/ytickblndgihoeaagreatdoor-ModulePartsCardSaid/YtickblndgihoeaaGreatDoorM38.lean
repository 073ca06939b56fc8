/- What the laws of layer 11 are handed. -/
import Derived.Test.YtickblndgihoeaaGreatDoorM5
import Derived.Test.YtickblndgihoeaaGreatDoorM37
import Derived.Test.YtickblndgihoeaaGreatDoorM36
set_option linter.unusedSimpArgs false
namespace Go.Proofs.YtickblndgihoeaaGreatDoor
open Go Go.Sp Go.ChangeShapes Go.WideShapes Go.ChangeAt Go.RowKit
theorem ceBool : Tryz.prog.cellsOf 4 = 1 := by kernel_rfl
theorem ceInt : Tryz.prog.cellsOf 3 = 1 := by kernel_rfl
theorem ceInt64 : Tryz.prog.cellsOf 2 = 1 := by kernel_rfl
theorem ceInts : Tryz.prog.cellsOf 26 = 1 := by kernel_rfl
theorem ceEdge : Tryz.prog.cellsOf 55 = 2 := by kernel_rfl
theorem ceType : Tryz.prog.cellsOf 60 = 2 := by kernel_rfl
theorem ceEdges : Tryz.prog.cellsOf 56 = 1 := by kernel_rfl
theorem ceNode : Tryz.prog.cellsOf 58 = 6 := by kernel_rfl
theorem ceNodes : Tryz.prog.cellsOf 22 = 1 := by kernel_rfl
theorem ceParam : Tryz.prog.cellsOf 62 = 3 := by kernel_rfl
theorem ceParams : Tryz.prog.cellsOf 47 = 1 := by kernel_rfl
theorem ceInsn : Tryz.prog.cellsOf 52 = 6 := by kernel_rfl
theorem ceInsns : Tryz.prog.cellsOf 48 = 1 := by kernel_rfl
theorem ceTemplate : Tryz.prog.cellsOf 50 = 3 := by kernel_rfl
theorem ceTemplates : Tryz.prog.cellsOf 23 = 1 := by kernel_rfl
theorem ceTypes : Tryz.prog.cellsOf 24 = 1 := by kernel_rfl
theorem ceArg : Tryz.prog.cellsOf 64 = 3 := by kernel_rfl
theorem ceArgs : Tryz.prog.cellsOf 65 = 1 := by kernel_rfl
theorem ceStart : Tryz.prog.cellsOf 67 = 2 := by kernel_rfl
theorem ceStarts : Tryz.prog.cellsOf 25 = 1 := by kernel_rfl
theorem ceModule : Tryz.prog.cellsOf 28 = 8 := by kernel_rfl
theorem wf_i64b {z : Int} (h : (Lit.int .i64 z).wf = true) : -9223372036854775808 ≤ z ∧ z ≤ 9223372036854775807 := by
  simp [Lit.wf, IntKind.min, IntKind.max, IntKind.signed, IntKind.bits] at h
  omega
section
variable {H : Type} {enc : TypeId × Value → H} {W : World} {base : Nat} {sp : Nat → Bool} {held : Bool}
theorem read_bool {t : TypeId} {n : Nat} {cs : List Value} {x : DataW H × List MemPlace} (ht : Tryz.prog.underlying t = some .bool) (h : DataW.trod enc Tryz.prog W base sp held n t cs = some x) : ∃ b : Bool, cs = [.bool b] := by
  obtain ⟨b, h1, _⟩ := DataW.trod_bool ht h
  exact ⟨b, h1⟩
set_option maxRecDepth 20000 in
theorem read_edge {n : Nat} {c : List Value} {D : DataW H × List MemPlace} (h : DataW.trod enc Tryz.prog W base sp held n 55 c = some D) : ∃ e : Int × Int, c = edgeC e := by
  obtain ⟨xs, m, _, hx, hl, hlen, hf⟩ := DataW.trod_struct Tryz.underlying55 (show DataW.trod enc Tryz.prog W base sp held n 55 c = some (D.1, D.2) from h)
  rw [ceEdge] at hl
  match c, hl with
  | [c0, c1], _ =>
  match xs, hlen with
  | [y0, y1], _ =>
    have h0 := hf 0 _ rfl
    have h1 := hf 1 _ rfl
    simp only [ceInt, List.drop, List.take, List.getElem?_cons_zero, List.getElem?_cons_succ] at h0 h1
    obtain ⟨z0, e0, _⟩ := read_int Tryz.underlying3 h0
    obtain ⟨z1, e1, _⟩ := read_int Tryz.underlying3 h1
    cases e0; cases e1
    exact ⟨(z0, z1), rfl⟩
set_option maxRecDepth 20000 in
theorem read_type {n : Nat} {c : List Value} {D : DataW H × List MemPlace} (h : DataW.trod enc Tryz.prog W base sp held n 60 c = some D) : ∃ e : Int × Int, c = edgeC e := by
  obtain ⟨xs, m, _, hx, hl, hlen, hf⟩ := DataW.trod_struct Tryz.underlying60 (show DataW.trod enc Tryz.prog W base sp held n 60 c = some (D.1, D.2) from h)
  rw [ceType] at hl
  match c, hl with
  | [c0, c1], _ =>
  match xs, hlen with
  | [y0, y1], _ =>
    have h0 := hf 0 _ rfl
    have h1 := hf 1 _ rfl
    simp only [ceInt, List.drop, List.take, List.getElem?_cons_zero, List.getElem?_cons_succ] at h0 h1
    obtain ⟨z0, e0, _⟩ := read_int Tryz.underlying3 h0
    obtain ⟨z1, e1, _⟩ := read_int Tryz.underlying3 h1
    cases e0; cases e1
    exact ⟨(z0, z1), rfl⟩
set_option maxRecDepth 20000 in
theorem read_node {n : Nat} {c : List Value} {D : DataW H × List MemPlace} (h : DataW.trod enc Tryz.prog W base sp held n 58 c = some D) : ∃ x : Nod, c = nodC x ∧ (x.next.length ≤ x.a.2 ∧ ∀ k, Base W k → NodR x k) := by
  obtain ⟨xs, m, _, hx, hl, hlen, hf⟩ := DataW.trod_struct Tryz.underlying58 (show DataW.trod enc Tryz.prog W base sp held n 58 c = some (D.1, D.2) from h)
  rw [ceNode] at hl
  match c, hl with
  | [c0, c1, c2, c3, c4, c5], _ =>
  match xs, hlen with
  | [y0, y1, y2, y3, y4], _ =>
    have h0 := hf 0 _ rfl
    have h1 := hf 1 _ rfl
    have h2 := hf 2 _ rfl
    have h3 := hf 3 _ rfl
    have h4 := hf 4 _ rfl
    simp only [ceInt, ceBool, ceEdge, ceEdges, List.drop, List.take, List.getElem?_cons_zero, List.getElem?_cons_succ] at h0 h1 h2 h3 h4
    obtain ⟨z0, e0, _⟩ := read_int Tryz.underlying3 h0
    obtain ⟨z1, e1, _⟩ := read_int Tryz.underlying3 h1
    obtain ⟨z2, e2⟩ := read_bool Tryz.underlying4 h2
    obtain ⟨z3, e3⟩ := read_edge h3
    obtain ⟨p, cap, zs, e4, l1, _, _, l2⟩ := read_row edgeC (fun _ => True) Tryz.underlying56 ceEdge (by decide) (fun m c y _ hy => (read_edge hy).imp fun _ h => ⟨h, trivial⟩) h4
    cases e0; cases e1; cases e2; cases e3; cases e4
    exact ⟨⟨z0, z1, z2, z3, zs, (p, cap)⟩, rfl, l1, l2⟩
set_option maxRecDepth 20000 in
theorem read_param {n : Nat} {c : List Value} {D : DataW H × List MemPlace} (h : DataW.trod enc Tryz.prog W base sp held n 62 c = some D) : ∃ x : Prm, c = prmC x := by
  obtain ⟨xs, m, _, hx, hl, hlen, hf⟩ := DataW.trod_struct Tryz.underlying62 (show DataW.trod enc Tryz.prog W base sp held n 62 c = some (D.1, D.2) from h)
  rw [ceParam] at hl
  match c, hl with
  | [c0, c1, c2], _ =>
  match xs, hlen with
  | [y0, y1], _ =>
    have h0 := hf 0 _ rfl
    have h1 := hf 1 _ rfl
    simp only [ceBool, ceType, List.drop, List.take, List.getElem?_cons_zero, List.getElem?_cons_succ] at h0 h1
    obtain ⟨z0, e0⟩ := read_bool Tryz.underlying4 h0
    obtain ⟨z1, e1⟩ := read_type h1
    cases e0; cases e1
    exact ⟨⟨z0, z1⟩, rfl⟩
set_option maxRecDepth 20000 in
theorem read_arg {n : Nat} {c : List Value} {D : DataW H × List MemPlace} (h : DataW.trod enc Tryz.prog W base sp held n 64 c = some D) : ∃ x : Ar, c = arC x ∧ arOk x := by
  obtain ⟨xs, m, _, hx, hl, hlen, hf⟩ := DataW.trod_struct Tryz.underlying64 (show DataW.trod enc Tryz.prog W base sp held n 64 c = some (D.1, D.2) from h)
  rw [ceArg] at hl
  match c, hl with
  | [c0, c1, c2], _ =>
  match xs, hlen with
  | [y0, y1, y2], _ =>
    have h0 := hf 0 _ rfl
    have h1 := hf 1 _ rfl
    have h2 := hf 2 _ rfl
    simp only [ceBool, ceInt64, ceInt, List.drop, List.take, List.getElem?_cons_zero, List.getElem?_cons_succ] at h0 h1 h2
    obtain ⟨z0, e0⟩ := read_bool Tryz.underlying4 h0
    obtain ⟨z1, e1, _, w1⟩ := read_int Tryz.underlying2 h1
    obtain ⟨z2, e2, _⟩ := read_int Tryz.underlying3 h2
    cases e0; cases e1; cases e2
    exact ⟨⟨z0, z1, z2⟩, rfl, wf_i64b w1⟩
set_option maxRecDepth 20000 in
theorem read_insn11 {n : Nat} {c : List Value} {D : DataW H × List MemPlace} (h : DataW.trod enc Tryz.prog W base sp held n 52 c = some D) : ∃ y : YI, c = insnC y ∧ ((y.1.l.length ≤ y.2.2 ∧ -9223372036854775808 ≤ y.1.a ∧ y.1.a ≤ 9223372036854775807) ∧ ∀ k, Base W k → InsV y k) := by
  obtain ⟨xs, m, _, hx, hl, hlen, hf⟩ := DataW.trod_struct Tryz.underlying52 (show DataW.trod enc Tryz.prog W base sp held n 52 c = some (D.1, D.2) from h)
  rw [ceInsn] at hl
  match c, hl with
  | [c0, c1, c2, c3, c4, c5], _ =>
  match xs, hlen with
  | [y0, y1, y2, y3, y4, y5], _ =>
    have h0 := hf 0 _ rfl
    have h1 := hf 1 _ rfl
    have h2 := hf 2 _ rfl
    have h3 := hf 3 _ rfl
    have h4 := hf 4 _ rfl
    have h5 := hf 5 _ rfl
    simp only [ceInt, ceInt64, ceInts, List.drop, List.take, List.getElem?_cons_zero, List.getElem?_cons_succ] at h0 h1 h2 h3 h4 h5
    obtain ⟨z0, e0, _⟩ := read_int Tryz.underlying3 h0
    obtain ⟨z1, e1, _, w1⟩ := read_int Tryz.underlying2 h1
    obtain ⟨z2, e2, _⟩ := read_int Tryz.underlying3 h2
    obtain ⟨z3, e3, _⟩ := read_int Tryz.underlying3 h3
    obtain ⟨z4, e4, _⟩ := read_int Tryz.underlying3 h4
    obtain ⟨p, cap, zs, Ds, e5, l1, _, l4, l2, _, l3⟩ := read_ints Tryz.underlying26 Tryz.underlying3 ceInt h5
    cases e0; cases e1; cases e2; cases e3; cases e4; cases e5
    exact ⟨(⟨z0, z1, z2, z3, z4, zs⟩, p, cap), rfl, ⟨l4, wf_i64b w1⟩, l2⟩
set_option maxRecDepth 20000 in
theorem read_template {n : Nat} {c : List Value} {D : DataW H × List MemPlace} (h : DataW.trod enc Tryz.prog W base sp held n 50 c = some D) : ∃ x : Tem, c = temC x ∧ ((x.params.length ≤ x.pa.2 ∧ ∀ y ∈ x.code, y.1.l.length ≤ y.2.2 ∧ -9223372036854775808 ≤ y.1.a ∧ y.1.a ≤ 9223372036854775807) ∧ ∀ k, Base W k → TemV x k) := by
  obtain ⟨xs, m, _, hx, hl, hlen, hf⟩ := DataW.trod_struct Tryz.underlying50 (show DataW.trod enc Tryz.prog W base sp held n 50 c = some (D.1, D.2) from h)
  rw [ceTemplate] at hl
  match c, hl with
  | [c0, c1, c2], _ =>
  match xs, hlen with
  | [y0, y1, y2], _ =>
    have h0 := hf 0 _ rfl
    have h1 := hf 1 _ rfl
    have h2 := hf 2 _ rfl
    simp only [ceParams, ceInsns, ceInts, List.drop, List.take, List.getElem?_cons_zero, List.getElem?_cons_succ] at h0 h1 h2
    obtain ⟨p, cap, ps, e0, l1, _, _, l2⟩ := read_row prmC (fun _ => True) Tryz.underlying47 ceParam (by decide) (fun m c y _ hy => (read_param hy).imp fun _ h => ⟨h, trivial⟩) h0
    obtain ⟨p', cap', ys, e1, k1, _, k3, k2⟩ := read_row insnC (fun y => (y.1.l.length ≤ y.2.2 ∧ -9223372036854775808 ≤ y.1.a ∧ y.1.a ≤ 9223372036854775807) ∧ ∀ k, Base W k → InsV y k) Tryz.underlying48 ceInsn (by decide) (fun m c y _ hy => read_insn11 hy) h1
    obtain ⟨p2, cap2, zs, Ds, e2, _⟩ := read_ints Tryz.underlying26 Tryz.underlying3 ceInt h2
    cases e0; cases e1; cases e2
    exact ⟨⟨ps, (p, cap), ys, (p', cap'), zs, (p2, cap2)⟩, rfl, ⟨l1, fun y hy => (k3 y hy).1⟩, fun k hk => ⟨l2 k hk, k2 k hk, fun y hy => (k3 y hy).2 k hk⟩⟩
set_option maxRecDepth 20000 in
theorem read_start {n : Nat} {c : List Value} {D : DataW H × List MemPlace} (h : DataW.trod enc Tryz.prog W base sp held n 67 c = some D) : ∃ x : Sta, c = staC x ∧ ((x.args.length ≤ x.a.2 ∧ ∀ p ∈ x.args, arOk p) ∧ ∀ k, Base W k → StaR x k) := by
  obtain ⟨xs, m, _, hx, hl, hlen, hf⟩ := DataW.trod_struct Tryz.underlying67 (show DataW.trod enc Tryz.prog W base sp held n 67 c = some (D.1, D.2) from h)
  rw [ceStart] at hl
  match c, hl with
  | [c0, c1], _ =>
  match xs, hlen with
  | [y0, y1], _ =>
    have h0 := hf 0 _ rfl
    have h1 := hf 1 _ rfl
    simp only [ceInt, ceArgs, List.drop, List.take, List.getElem?_cons_zero, List.getElem?_cons_succ] at h0 h1
    obtain ⟨z0, e0, _⟩ := read_int Tryz.underlying3 h0
    obtain ⟨p, cap, ps, e1, l1, _, l3, l2⟩ := read_row arC (fun p => arOk p) Tryz.underlying65 ceArg (by decide) (fun m c y _ hy => read_arg hy) h1
    cases e0; cases e1
    exact ⟨⟨z0, ps, (p, cap)⟩, rfl, ⟨l1, l3⟩, l2⟩
set_option maxRecDepth 20000 in
theorem read_module {v : Value} {d : DataW H} {ps : List MemPlace} {r : Go.Reach} {b0 : Nat} (hv : Value.okWide Tryz.prog W r b0 28 v) (h : DataW.Trod enc Tryz.prog W base sp held 28 v d ps) :
    ∃ m : Mdl, v = .agg (modC m).toArray ∧ CapM m ∧ ∀ k, Base W k → RawR m k := by
  obtain ⟨cs, rfl⟩ := ok_agg (.inl ⟨_, Tryz.underlying28⟩) hv
  obtain ⟨n, hn⟩ := h
  obtain ⟨xs, m, _, _, hl, hlen, hf⟩ := DataW.trod_struct Tryz.underlying28 hn
  rw [ceModule] at hl
  have hl' : cs.length = 8 := by simpa [Value.cells] using hl
  match cs, hl' with
  | [c0, c1, c2, c3, c4, c5, c6, c7], _ =>
  match xs, hlen with
  | [y0, y1, y2, y3, y4, y5, y6, y7], _ =>
    have h0 := hf 0 _ rfl
    have h1 := hf 1 _ rfl
    have h2 := hf 2 _ rfl
    have h3 := hf 3 _ rfl
    have h4 := hf 4 _ rfl
    have h5 := hf 5 _ rfl
    have h6 := hf 6 _ rfl
    have h7 := hf 7 _ rfl
    simp only [Value.cells, ceNodes, ceTemplates, ceTypes, ceStarts, ceInts, List.drop, List.take, List.getElem?_cons_zero, List.getElem?_cons_succ] at h0 h1 h2 h3 h4 h5 h6 h7
    obtain ⟨pn, kn, ns, e0, _, _, n3, n2⟩ := read_row nodC (fun x => x.next.length ≤ x.a.2 ∧ ∀ k, Base W k → NodR x k) Tryz.underlying22 ceNode (by decide) (fun m c y _ hy => read_node hy) h0
    obtain ⟨pt', kt, ts, e1, _, _, t3, t2⟩ := read_row temC (fun x => (x.params.length ≤ x.pa.2 ∧ ∀ y ∈ x.code, y.1.l.length ≤ y.2.2 ∧ -9223372036854775808 ≤ y.1.a ∧ y.1.a ≤ 9223372036854775807) ∧ ∀ k, Base W k → TemV x k) Tryz.underlying23 ceTemplate (by decide) (fun m c y _ hy => read_template hy) h1
    obtain ⟨pc, kc, cs', e2, c1', _, _, c2'⟩ := read_row edgeC (fun _ => True) Tryz.underlying24 ceType (by decide) (fun m c y _ hy => (read_type hy).imp fun _ h => ⟨h, trivial⟩) h2
    obtain ⟨ps', ks, ss, e3, _, _, s3, s2⟩ := read_row staC (fun x => (x.args.length ≤ x.a.2 ∧ ∀ p ∈ x.args, arOk p) ∧ ∀ k, Base W k → StaR x k) Tryz.underlying25 ceStart (by decide) (fun m c y _ hy => read_start hy) h3
    obtain ⟨p4, k4, z4, _, e4, _⟩ := read_ints Tryz.underlying26 Tryz.underlying3 ceInt h4
    obtain ⟨p5, k5, z5, _, e5, _⟩ := read_ints Tryz.underlying26 Tryz.underlying3 ceInt h5
    obtain ⟨p6, k6, z6, _, e6, _⟩ := read_ints Tryz.underlying26 Tryz.underlying3 ceInt h6
    obtain ⟨p7, k7, z7, _, e7, _⟩ := read_ints Tryz.underlying26 Tryz.underlying3 ceInt h7
    cases e0; cases e1; cases e2; cases e3; cases e4; cases e5; cases e6; cases e7
    refine ⟨⟨ns, (pn, kn), ts, (pt', kt), cs', (pc, kc), ss, (ps', ks), z4, (p4, k4), z5, (p5, k5), z6, (p6, k6), z7, (p7, k7)⟩, rfl, ⟨fun x hx => (n3 x hx).1, fun x hx => (t3 x hx).1, c1', fun x hx => (s3 x hx).1⟩, fun k hk A hA => ?_⟩
    simp only [rawK, List.mem_cons, List.not_mem_nil, or_false] at hA
    rcases hA with rfl | rfl | rfl | rfl | rfl | rfl | rfl
    · exact n2 k hk
    · exact fun x hx => (n3 x hx).2 k hk
    · exact t2 k hk
    · exact fun x hx => (t3 x hx).2 k hk
    · exact c2' k hk
    · exact s2 k hk
    · exact fun x hx => (s3 x hx).2 k hk
end
end Go.Proofs.YtickblndgihoeaaGreatDoor

/- Layer 11: how long what is laid may be; what was read is small. -/
namespace Go.Proofs.YtickblndgihoeaaGreatDoor
open Go Go.Sp
theorem listO_mem {α : Type} {o : α → OB} {least most : Int} {l : List α} {b : List UInt8} (h : listO least most o l = some b) : least ≤ (l.length : Int) ∧ (l.length : Int) ≤ most ∧ ∃ a r, numO l.length most = some a ∧ mapO o l = some r ∧ b = a ++ r := by
  unfold listO at h
  split at h
  · rename_i h0
    obtain ⟨a, r, h1, h2, h3⟩ := catO_iff.1 h
    exact ⟨h0, (numO_le h1).2, a, r, h1, h2, h3⟩
  · cases h
theorem LeO.num2 {n m : Int} (hm : m ≤ 16383) : LeO (numO n m) 2 := fun bs h => by
  have h1 := numO_le h
  unfold numO at h
  rw [if_pos h1] at h
  cases h
  exact enc_len (k := 1) (by rw [show (128 : Nat) ^ (1 + 1) = 16384 from by decide]; omega)
theorem LeO.must0 {b : Bool} : LeO (mustO b) 0 := by
  cases b
  · exact LeO.none
  · exact fun _ h => by cases h; simp
theorem LeO.prm {p : Prm} : LeO (prmO p) 5 := by
  obtain ⟨ch, e⟩ := p
  have hf : ∀ b, LeO (flagO b) 1 := fun b x h => by cases h; simp
  cases ch with
  | true => rw [prmO_t]; exact (hf true).cat ((LeO.num2 (by decide)).cat (LeO.num2 (by decide)))
  | false => rw [prmO_f]; exact ((hf false).cat LeO.must0).mono (by decide)
theorem LeO.ins {y : YI} (ha : -9223372036854775808 ≤ y.1.a ∧ y.1.a ≤ 9223372036854775807) : LeO (insO y) 131 := fun bs h => by
  rcases chk_cases y.1 with h0 | ⟨n, h24, hn, hf, h0⟩
  · rw [insO_bad h0] at h; cases h
  · rw [insO_ok hn h0] at h
    cases h
    exact (bytes_len h24 hn hf ha).1
theorem LeO.tem {t : Tem} (ht : temOk t) : LeO (temO t) (20 + 5 * t.params.length + 131 * t.code.length) := by
  have h1 : LeO (listO 0 8 prmO t.params) (10 + costs (fun _ => 5) t.params) := LeO.list (by decide) fun x _ => LeO.prm
  have h2 : LeO (listO 1 128 insO t.code) (10 + costs (fun _ => 131) t.code) := LeO.list (by decide) fun x hx => LeO.ins (ht x hx)
  have e1 := costs_le (f := fun _ : Prm => 5) (b := 5) (l := t.params) fun _ _ => Nat.le_refl _
  have e2 := costs_le (f := fun _ : YI => 131) (b := 131) (l := t.code) fun _ _ => Nat.le_refl _
  exact (h1.cat h2).mono (by omega)
/-- What is laid of a module whose lists are cut fits into its sections. -/
theorem few_fits {m : Mdl} (h : FewM m) {x y z : List UInt8} (h1 : sec1O m = some x) (h2 : sec2O m = some y) (h3 : sec3O m = some z) : x.length ≤ 65536 ∧ y.length ≤ 65536 ∧ z.length ≤ 65536 := by
  have hok := ok_few h
  obtain ⟨⟨n1, n2⟩, ⟨t1, t2⟩, c1, ⟨s1, s2⟩, _⟩ := h
  refine ⟨?_, ?_, ?_⟩
  · have e1 : costs costN m.nodes ≤ m.nodes.length * 300 := costs_le fun x hx => by
      have h1 := costs_le (f := fun _ : Int × Int => 20) (b := 20) (l := x.next) (fun _ _ => Nat.le_refl _)
      have := n2 x hx
      unfold costN; omega
    have := (LeO.list (cost := costN) (by decide) fun x _ => (fun _ hb => nodeO_len hb)) x h1
    omega
  · have hl := (listO_mem h2).2.1
    have e1 : costs (fun t : Tem => 20 + 5 * t.params.length + 131 * t.code.length) m.temps ≤ m.temps.length * 4000 := costs_le fun x hx => by
      have := t2 x hx
      omega
    have := (LeO.list (cost := fun t : Tem => 20 + 5 * t.params.length + 131 * t.code.length) (by decide) fun x hx => LeO.tem (hok.1 x hx)) y h2
    omega
  · have e1 := costs_le (f := fun _ : Int × Int => 20) (b := 20) (l := m.chans) fun _ _ => Nat.le_refl _
    have e2 : costs costS m.starts ≤ m.starts.length * 330 := costs_le fun x hx => by
      have h1 := costs_le (f := fun _ : Ar => 30) (b := 30) (l := x.args) (fun _ _ => Nat.le_refl _)
      have := s2 x hx
      unfold costS; omega
    have := ((LeO.list (cost := fun _ : Int × Int => 20) (by decide) fun _ _ => LeO.edge).cat (LeO.list (cost := costS) (by decide) fun x hx => staO_len (hok.2 x hx))) z h3
    omega
/-- Laying a module whose lists are cut: its bytes, or that it cannot be laid. -/
theorem put_few (m : Mdl) (h : FewM m) : (∃ x y z, sec1O m = some x ∧ sec2O m = some y ∧ sec3O m = some z ∧ (x.length ≤ 65536 ∧ y.length ≤ 65536 ∧ z.length ≤ 65536) ∧ Ct Tryz.prog 9 #[.agg (modC m).toArray] [ModR m] (RetV (.tuple #[str (joinL x y z), .int .i64 0]) [ModR m])) ∨
    ((sec1O m = none ∨ sec2O m = none ∨ sec3O m = none) ∧ Ct Tryz.prog 9 #[.agg (modC m).toArray] [ModR m] (RetV (.tuple #[str [], .int .i64 2]) [ModR m])) := by
  cases h1 : sec1O m with
  | none => exact .inr ⟨.inl rfl, put11_bad m (small_few h) (.inl h1)⟩
  | some x =>
    cases h2 : sec2O m with
    | none => exact .inr ⟨.inr (.inl rfl), put11_bad m (small_few h) (.inr (.inl h2))⟩
    | some y =>
      cases h3 : sec3O m with
      | none => exact .inr ⟨.inr (.inr rfl), put11_bad m (small_few h) (.inr (.inr h3))⟩
      | some z =>
        have hl := few_fits h h1 h2 h3
        have := put11_ok m (small_few h) h1 h2 h3 (by omega) (by omega) (by omega)
        unfold joinA at this
        rw [if_pos hl] at this
        exact .inl ⟨x, y, z, rfl, rfl, rfl, hl, this⟩
theorem joinL_few {x y z : List UInt8} (h : x.length ≤ 65536 ∧ y.length ≤ 65536 ∧ z.length ≤ 65536) : (joinL x y z).length ≤ 300000 := by
  obtain ⟨h1, h2, h3⟩ := h
  have g1 := enc_len10 (n := x.length) (by omega)
  have g2 := enc_len10 (n := y.length) (by omega)
  have g3 := enc_len10 (n := z.length) (by omega)
  simp only [joinL, secL, headL, List.length_append, List.length_cons, List.length_nil]
  omega
end Go.Proofs.YtickblndgihoeaaGreatDoor

/- A part of a tuple, in a drawn region. -/
namespace Go.Sp
open Go.RowKit
section
variable {P : Program} {N : Nat} {E : Env} {D : List Deferred} {L : List HP}
variable {d : Option Nat} {ty : TypeId} {pos : String} {after : Array Edge} {g : Option (Nat × Bool)}
theorem JQ_extract {x : Operand} {vs : List Value} {k : Nat} {v : Value} (hx : ev E x = some (.tuple vs.toArray)) (hk : lget vs k = some v) : JQ P N ⟨d, .extract x k, ty, pos, after, g⟩ E D L v := fun F a hr w hs => by
  rw [lget_eq] at hk
  simp [execOp, hr.eval hx, Instr.extract, hk]
end
end Go.Sp
