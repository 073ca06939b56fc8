/- What the laws of layer 11 are handed. -/
import Derived.Test.YtickblndgihoeaaGreatDoorM5
import Derived.Test.YtickblndgihoeaaGreatDoorM37
import Derived.Test.YtickblndgihoeaaGreatDoorM16
import Derived.Test.YtickblndgihoeaaGreatDoorM29
import Derived.Test.YtickblndgihoeaaGreatDoorM14
set_option linter.unusedSimpArgs false
namespace Go.Proofs.YtickblndgihoeaaGreatDoor
open Go Go.Sp Go.ChangeShapes Go.WideShapes Go.ChangeAt Go.RowKit
theorem ceBool : Tryz.prog.cellsOf 4 = 1 := by kernel_rfl
theorem ceInt : Tryz.prog.cellsOf 3 = 1 := by kernel_rfl
theorem ceInt64 : Tryz.prog.cellsOf 2 = 1 := by kernel_rfl
theorem ceInts : Tryz.prog.cellsOf 26 = 1 := by kernel_rfl
theorem ceEdge : Tryz.prog.cellsOf 55 = 2 := by kernel_rfl
theorem ceType : Tryz.prog.cellsOf 60 = 2 := by kernel_rfl
theorem ceEdges : Tryz.prog.cellsOf 56 = 1 := by kernel_rfl
theorem ceNode : Tryz.prog.cellsOf 58 = 6 := by kernel_rfl
theorem ceNodes : Tryz.prog.cellsOf 22 = 1 := by kernel_rfl
theorem ceParam : Tryz.prog.cellsOf 62 = 3 := by kernel_rfl
theorem ceParams : Tryz.prog.cellsOf 47 = 1 := by kernel_rfl
theorem ceInsn : Tryz.prog.cellsOf 52 = 6 := by kernel_rfl
theorem ceInsns : Tryz.prog.cellsOf 48 = 1 := by kernel_rfl
theorem ceTemplate : Tryz.prog.cellsOf 50 = 3 := by kernel_rfl
theorem ceTemplates : Tryz.prog.cellsOf 23 = 1 := by kernel_rfl
theorem ceTypes : Tryz.prog.cellsOf 24 = 1 := by kernel_rfl
theorem ceArg : Tryz.prog.cellsOf 64 = 3 := by kernel_rfl
theorem ceArgs : Tryz.prog.cellsOf 65 = 1 := by kernel_rfl
theorem ceStart : Tryz.prog.cellsOf 67 = 2 := by kernel_rfl
theorem ceStarts : Tryz.prog.cellsOf 25 = 1 := by kernel_rfl
theorem ceModule : Tryz.prog.cellsOf 28 = 8 := by kernel_rfl
theorem wf_i64b {z : Int} (h : (Lit.int .i64 z).wf = true) : -9223372036854775808 ≤ z ∧ z ≤ 9223372036854775807 := by
  simp [Lit.wf,IntKind.min,IntKind.max,IntKind.signed,IntKind.bits] at h
  omega
section
variable {H : Type} {enc : TypeId × Value → H} {W : World} {base : Nat} {sp : Nat → Bool} {held : Bool}
theorem read_bool {t : TypeId} {n : Nat} {cs : List Value} {x : DataW H × List MemPlace} (ht : Tryz.prog.underlying t = some .bool) (h : DataW.trod enc Tryz.prog W base sp held n t cs = some x) : ∃ b : Bool,cs = [.bool b] := by
  obtain ⟨b,h1,_⟩ := DataW.trod_bool ht h
  exact ⟨b,h1⟩
set_option maxRecDepth 20000 in
theorem read_edge {n : Nat} {c : List Value} {D : DataW H × List MemPlace} (h : DataW.trod enc Tryz.prog W base sp held n 55 c = some D) : ∃ e : Int × Int,c = yG e := by
  obtain ⟨xs,m,_,hx,hl,hlen,hf⟩ := DataW.trod_struct Tryz.underlying55 (show DataW.trod enc Tryz.prog W base sp held n 55 c = some (D.1,D.2) from h)
  rw [ceEdge] at hl
  match c,hl with
  | [c0,c1],_ =>
  match xs,hlen with
  | [y0,y1],_ =>
    have h0 := hf 0 _ rfl
    have h1 := hf 1 _ rfl
    simp only [ceInt,List.drop,List.take,List.getElem?_cons_zero,List.getElem?_cons_succ] at h0 h1
    obtain ⟨z0,e0,_⟩ := read_int Tryz.underlying3 h0
    obtain ⟨z1,e1,_⟩ := read_int Tryz.underlying3 h1
    cases e0;cases e1
    exact ⟨(z0,z1),rfl⟩
set_option maxRecDepth 20000 in
theorem read_type {n : Nat} {c : List Value} {D : DataW H × List MemPlace} (h : DataW.trod enc Tryz.prog W base sp held n 60 c = some D) : ∃ e : Int × Int,c = yG e := by
  obtain ⟨xs,m,_,hx,hl,hlen,hf⟩ := DataW.trod_struct Tryz.underlying60 (show DataW.trod enc Tryz.prog W base sp held n 60 c = some (D.1,D.2) from h)
  rw [ceType] at hl
  match c,hl with
  | [c0,c1],_ =>
  match xs,hlen with
  | [y0,y1],_ =>
    have h0 := hf 0 _ rfl
    have h1 := hf 1 _ rfl
    simp only [ceInt,List.drop,List.take,List.getElem?_cons_zero,List.getElem?_cons_succ] at h0 h1
    obtain ⟨z0,e0,_⟩ := read_int Tryz.underlying3 h0
    obtain ⟨z1,e1,_⟩ := read_int Tryz.underlying3 h1
    cases e0;cases e1
    exact ⟨(z0,z1),rfl⟩
set_option maxRecDepth 20000 in
theorem read_node {n : Nat} {c : List Value} {D : DataW H × List MemPlace} (h : DataW.trod enc Tryz.prog W base sp held n 58 c = some D) : ∃ x : Nod,c = wI x ∧ (x.next.length ≤ x.a.2 ∧ ∀ k,Base W k → wV x k) := by
  obtain ⟨xs,m,_,hx,hl,hlen,hf⟩ := DataW.trod_struct Tryz.underlying58 (show DataW.trod enc Tryz.prog W base sp held n 58 c = some (D.1,D.2) from h)
  rw [ceNode] at hl
  match c,hl with
  | [c0,c1,c2,c3,c4,c5],_ =>
  match xs,hlen with
  | [y0,y1,y2,y3,y4],_ =>
    have h0 := hf 0 _ rfl
    have h1 := hf 1 _ rfl
    have h2 := hf 2 _ rfl
    have h3 := hf 3 _ rfl
    have h4 := hf 4 _ rfl
    simp only [ceInt,ceBool,ceEdge,ceEdges,List.drop,List.take,List.getElem?_cons_zero,List.getElem?_cons_succ] at h0 h1 h2 h3 h4
    obtain ⟨z0,e0,_⟩ := read_int Tryz.underlying3 h0
    obtain ⟨z1,e1,_⟩ := read_int Tryz.underlying3 h1
    obtain ⟨z2,e2⟩ := read_bool Tryz.underlying4 h2
    obtain ⟨z3,e3⟩ := read_edge h3
    obtain ⟨p,cap,zs,e4,l1,_,_,l2⟩ := read_row yG (fun _ => True) Tryz.underlying56 ceEdge (by decide) (fun m c y _ hy => (read_edge hy).imp fun _ h => ⟨h,trivial⟩) h4
    cases e0;cases e1;cases e2;cases e3;cases e4
    exact ⟨⟨z0,z1,z2,z3,zs,(p,cap)⟩,rfl,l1,l2⟩
set_option maxRecDepth 20000 in
theorem read_param {n : Nat} {c : List Value} {D : DataW H × List MemPlace} (h : DataW.trod enc Tryz.prog W base sp held n 62 c = some D) : ∃ x : Prm,c = prmC x := by
  obtain ⟨xs,m,_,hx,hl,hlen,hf⟩ := DataW.trod_struct Tryz.underlying62 (show DataW.trod enc Tryz.prog W base sp held n 62 c = some (D.1,D.2) from h)
  rw [ceParam] at hl
  match c,hl with
  | [c0,c1,c2],_ =>
  match xs,hlen with
  | [y0,y1],_ =>
    have h0 := hf 0 _ rfl
    have h1 := hf 1 _ rfl
    simp only [ceBool,ceType,List.drop,List.take,List.getElem?_cons_zero,List.getElem?_cons_succ] at h0 h1
    obtain ⟨z0,e0⟩ := read_bool Tryz.underlying4 h0
    obtain ⟨z1,e1⟩ := read_type h1
    cases e0;cases e1
    exact ⟨⟨z0,z1⟩,rfl⟩
set_option maxRecDepth 20000 in
theorem read_arg {n : Nat} {c : List Value} {D : DataW H × List MemPlace} (h : DataW.trod enc Tryz.prog W base sp held n 64 c = some D) : ∃ x : Ar,c = arC x ∧ arOk x := by
  obtain ⟨xs,m,_,hx,hl,hlen,hf⟩ := DataW.trod_struct Tryz.underlying64 (show DataW.trod enc Tryz.prog W base sp held n 64 c = some (D.1,D.2) from h)
  rw [ceArg] at hl
  match c,hl with
  | [c0,c1,c2],_ =>
  match xs,hlen with
  | [y0,y1,y2],_ =>
    have h0 := hf 0 _ rfl
    have h1 := hf 1 _ rfl
    have h2 := hf 2 _ rfl
    simp only [ceBool,ceInt64,ceInt,List.drop,List.take,List.getElem?_cons_zero,List.getElem?_cons_succ] at h0 h1 h2
    obtain ⟨z0,e0⟩ := read_bool Tryz.underlying4 h0
    obtain ⟨z1,e1,_,w1⟩ := read_int Tryz.underlying2 h1
    obtain ⟨z2,e2,_⟩ := read_int Tryz.underlying3 h2
    cases e0;cases e1;cases e2
    exact ⟨⟨z0,z1,z2⟩,rfl,wf_i64b w1⟩
set_option maxRecDepth 20000 in
theorem read_insn11 {n : Nat} {c : List Value} {D : DataW H × List MemPlace} (h : DataW.trod enc Tryz.prog W base sp held n 52 c = some D) : ∃ y : YI,c = vL y ∧ ((y.1.l.length ≤ y.2.2 ∧ -9223372036854775808 ≤ y.1.a ∧ y.1.a ≤ 9223372036854775807) ∧ ∀ k,Base W k → InsV y k) := by
  obtain ⟨xs,m,_,hx,hl,hlen,hf⟩ := DataW.trod_struct Tryz.underlying52 (show DataW.trod enc Tryz.prog W base sp held n 52 c = some (D.1,D.2) from h)
  rw [ceInsn] at hl
  match c,hl with
  | [c0,c1,c2,c3,c4,c5],_ =>
  match xs,hlen with
  | [y0,y1,y2,y3,y4,y5],_ =>
    have h0 := hf 0 _ rfl
    have h1 := hf 1 _ rfl
    have h2 := hf 2 _ rfl
    have h3 := hf 3 _ rfl
    have h4 := hf 4 _ rfl
    have h5 := hf 5 _ rfl
    simp only [ceInt,ceInt64,ceInts,List.drop,List.take,List.getElem?_cons_zero,List.getElem?_cons_succ] at h0 h1 h2 h3 h4 h5
    obtain ⟨z0,e0,_⟩ := read_int Tryz.underlying3 h0
    obtain ⟨z1,e1,_,w1⟩ := read_int Tryz.underlying2 h1
    obtain ⟨z2,e2,_⟩ := read_int Tryz.underlying3 h2
    obtain ⟨z3,e3,_⟩ := read_int Tryz.underlying3 h3
    obtain ⟨z4,e4,_⟩ := read_int Tryz.underlying3 h4
    obtain ⟨p,cap,zs,Ds,e5,l1,_,l4,l2,_,l3⟩ := read_ints Tryz.underlying26 Tryz.underlying3 ceInt h5
    cases e0;cases e1;cases e2;cases e3;cases e4;cases e5
    exact ⟨(⟨z0,z1,z2,z3,z4,zs⟩,p,cap),rfl,⟨l4,wf_i64b w1⟩,l2⟩
set_option maxRecDepth 20000 in
theorem read_template {n : Nat} {c : List Value} {D : DataW H × List MemPlace} (h : DataW.trod enc Tryz.prog W base sp held n 50 c = some D) : ∃ x : Tem,c = wK x ∧ ((x.params.length ≤ x.pa.2 ∧ ∀ y ∈ x.code,y.1.l.length ≤ y.2.2 ∧ -9223372036854775808 ≤ y.1.a ∧ y.1.a ≤ 9223372036854775807) ∧ ∀ k,Base W k → TemV x k) := by
  obtain ⟨xs,m,_,hx,hl,hlen,hf⟩ := DataW.trod_struct Tryz.underlying50 (show DataW.trod enc Tryz.prog W base sp held n 50 c = some (D.1,D.2) from h)
  rw [ceTemplate] at hl
  match c,hl with
  | [c0,c1,c2],_ =>
  match xs,hlen with
  | [y0,y1,y2],_ =>
    have h0 := hf 0 _ rfl
    have h1 := hf 1 _ rfl
    have h2 := hf 2 _ rfl
    simp only [ceParams,ceInsns,ceInts,List.drop,List.take,List.getElem?_cons_zero,List.getElem?_cons_succ] at h0 h1 h2
    obtain ⟨p,cap,ps,e0,l1,_,_,l2⟩ := read_row prmC (fun _ => True) Tryz.underlying47 ceParam (by decide) (fun m c y _ hy => (read_param hy).imp fun _ h => ⟨h,trivial⟩) h0
    obtain ⟨p',cap',ys,e1,k1,_,k3,k2⟩ := read_row vL (fun y => (y.1.l.length ≤ y.2.2 ∧ -9223372036854775808 ≤ y.1.a ∧ y.1.a ≤ 9223372036854775807) ∧ ∀ k,Base W k → InsV y k) Tryz.underlying48 ceInsn (by decide) (fun m c y _ hy => read_insn11 hy) h1
    obtain ⟨p2,cap2,zs,Ds,e2,_⟩ := read_ints Tryz.underlying26 Tryz.underlying3 ceInt h2
    cases e0;cases e1;cases e2
    exact ⟨⟨ps,(p,cap),ys,(p',cap'),zs,(p2,cap2)⟩,rfl,⟨l1,fun y hy => (k3 y hy).1⟩,fun k hk => ⟨l2 k hk,k2 k hk,fun y hy => (k3 y hy).2 k hk⟩⟩
set_option maxRecDepth 20000 in
theorem read_start {n : Nat} {c : List Value} {D : DataW H × List MemPlace} (h : DataW.trod enc Tryz.prog W base sp held n 67 c = some D) : ∃ x : Sta,c = vE x ∧ ((x.args.length ≤ x.a.2 ∧ ∀ p ∈ x.args,arOk p) ∧ ∀ k,Base W k → StaR x k) := by
  obtain ⟨xs,m,_,hx,hl,hlen,hf⟩ := DataW.trod_struct Tryz.underlying67 (show DataW.trod enc Tryz.prog W base sp held n 67 c = some (D.1,D.2) from h)
  rw [ceStart] at hl
  match c,hl with
  | [c0,c1],_ =>
  match xs,hlen with
  | [y0,y1],_ =>
    have h0 := hf 0 _ rfl
    have h1 := hf 1 _ rfl
    simp only [ceInt,ceArgs,List.drop,List.take,List.getElem?_cons_zero,List.getElem?_cons_succ] at h0 h1
    obtain ⟨z0,e0,_⟩ := read_int Tryz.underlying3 h0
    obtain ⟨p,cap,ps,e1,l1,_,l3,l2⟩ := read_row arC (fun p => arOk p) Tryz.underlying65 ceArg (by decide) (fun m c y _ hy => read_arg hy) h1
    cases e0;cases e1
    exact ⟨⟨z0,ps,(p,cap)⟩,rfl,⟨l1,l3⟩,l2⟩
set_option maxRecDepth 20000 in
theorem read_module {v : Value} {d : DataW H} {ps : List MemPlace} {r : Go.Reach} {b0 : Nat} (hv : Value.okWide Tryz.prog W r b0 28 v) (h : DataW.Trod enc Tryz.prog W base sp held 28 v d ps) :
    ∃ m : Mdl,v = .agg (tN m).toArray ∧ CapM m ∧ ∀ k,Base W k → RawR m k := by
  obtain ⟨cs,rfl⟩ := ok_agg (.inl ⟨_,Tryz.underlying28⟩) hv
  obtain ⟨n,hn⟩ := h
  obtain ⟨xs,m,_,_,hl,hlen,hf⟩ := DataW.trod_struct Tryz.underlying28 hn
  rw [ceModule] at hl
  have hl' : cs.length = 8 := by simpa [Value.cells] using hl
  match cs,hl' with
  | [c0,c1,c2,c3,c4,c5,c6,c7],_ =>
  match xs,hlen with
  | [y0,y1,y2,y3,y4,y5,y6,y7],_ =>
    have h0 := hf 0 _ rfl
    have h1 := hf 1 _ rfl
    have h2 := hf 2 _ rfl
    have h3 := hf 3 _ rfl
    have h4 := hf 4 _ rfl
    have h5 := hf 5 _ rfl
    have h6 := hf 6 _ rfl
    have h7 := hf 7 _ rfl
    simp only [Value.cells,ceNodes,ceTemplates,ceTypes,ceStarts,ceInts,List.drop,List.take,List.getElem?_cons_zero,List.getElem?_cons_succ] at h0 h1 h2 h3 h4 h5 h6 h7
    obtain ⟨pn,kn,ns,e0,_,_,n3,n2⟩ := read_row wI (fun x => x.next.length ≤ x.a.2 ∧ ∀ k,Base W k → wV x k) Tryz.underlying22 ceNode (by decide) (fun m c y _ hy => read_node hy) h0
    obtain ⟨pt',kt,ts,e1,_,_,t3,t2⟩ := read_row wK (fun x => (x.params.length ≤ x.pa.2 ∧ ∀ y ∈ x.code,y.1.l.length ≤ y.2.2 ∧ -9223372036854775808 ≤ y.1.a ∧ y.1.a ≤ 9223372036854775807) ∧ ∀ k,Base W k → TemV x k) Tryz.underlying23 ceTemplate (by decide) (fun m c y _ hy => read_template hy) h1
    obtain ⟨pc,kc,cs',e2,c1',_,_,c2'⟩ := read_row yG (fun _ => True) Tryz.underlying24 ceType (by decide) (fun m c y _ hy => (read_type hy).imp fun _ h => ⟨h,trivial⟩) h2
    obtain ⟨ps',ks,ss,e3,_,_,s3,s2⟩ := read_row vE (fun x => (x.args.length ≤ x.a.2 ∧ ∀ p ∈ x.args,arOk p) ∧ ∀ k,Base W k → StaR x k) Tryz.underlying25 ceStart (by decide) (fun m c y _ hy => read_start hy) h3
    obtain ⟨p4,k4,z4,_,e4,_⟩ := read_ints Tryz.underlying26 Tryz.underlying3 ceInt h4
    obtain ⟨p5,k5,z5,_,e5,_⟩ := read_ints Tryz.underlying26 Tryz.underlying3 ceInt h5
    obtain ⟨p6,k6,z6,_,e6,_⟩ := read_ints Tryz.underlying26 Tryz.underlying3 ceInt h6
    obtain ⟨p7,k7,z7,_,e7,_⟩ := read_ints Tryz.underlying26 Tryz.underlying3 ceInt h7
    cases e0;cases e1;cases e2;cases e3;cases e4;cases e5;cases e6;cases e7
    refine ⟨⟨ns,(pn,kn),ts,(pt',kt),cs',(pc,kc),ss,(ps',ks),z4,(p4,k4),z5,(p5,k5),z6,(p6,k6),z7,(p7,k7)⟩,rfl,⟨fun x hx => (n3 x hx).1,fun x hx => (t3 x hx).1,c1',fun x hx => (s3 x hx).1⟩,fun k hk A hA => ?_⟩
    simp only [rawK,List.mem_cons,List.not_mem_nil,or_false] at hA
    rcases hA with rfl | rfl | rfl | rfl | rfl | rfl | rfl
    · exact n2 k hk
    · exact fun x hx => (n3 x hx).2 k hk
    · exact t2 k hk
    · exact fun x hx => (t3 x hx).2 k hk
    · exact c2' k hk
    · exact s2 k hk
    · exact fun x hx => (s3 x hx).2 k hk
end
end Go.Proofs.YtickblndgihoeaaGreatDoor

/- Layer 11: how long what is laid may be;what was read is small. -/
namespace Go.Proofs.YtickblndgihoeaaGreatDoor
open Go Go.Sp
theorem listO_mem {α : Type} {o : α → OB} {least most : Int} {l : List α} {b : List UInt8} (h : xX least most o l = some b) : least ≤ (l.length : Int) ∧ (l.length : Int) ≤ most ∧ ∃ a r,xT l.length most = some a ∧ vR o l = some r ∧ b = a ++ r := by
  unfold xX at h
  split at h
  · rename_i h0
    obtain ⟨a,r,h1,h2,h3⟩ := wO.1 h
    exact ⟨h0,(numO_le h1).2,a,r,h1,h2,h3⟩
  · cases h
theorem mapO_mem {α : Type} {o : α → OB} : ∀ {l : List α} {b : List UInt8},vR o l = some b → ∀ x ∈ l,∃ c,o x = some c
  | [],_,_,x,hx => by cases hx
  | y :: l,b,h,x,hx => by
    obtain ⟨a,r,h1,h2,h3⟩ := wO.1 (show yY (o y) (vR o l) = some b from h)
    rcases List.mem_cons.1 hx with rfl | hx
    · exact ⟨a,h1⟩
    · exact mapO_mem h2 x hx
theorem LeO.num2 {n m : Int} (hm : m ≤ 16383) : LeO (xT n m) 2 := fun bs h => by
  have h1 := numO_le h
  unfold xT at h
  rw [if_pos h1] at h
  cases h
  exact enc_len (k := 1) (by rw [show (128 : Nat) ^ (1 + 1) = 16384 from by decide];omega)
theorem LeO.must0 {b : Bool} : LeO (xR b) 0 := by
  cases b
  · exact LeO.none
  · exact fun _ h => by cases h;simp
theorem LeO.prm {p : Prm} : LeO (prmO p) 5 := by
  obtain ⟨ch,e⟩ := p
  have hf : ∀ b,LeO (flagO b) 1 := fun b x h => by cases h;simp
  cases ch with
  | true => rw [prmO_t];exact (hf true).cat ((LeO.num2 (by decide)).cat (LeO.num2 (by decide)))
  | false => rw [prmO_f];exact ((hf false).cat LeO.must0).mono (by decide)
theorem LeO.ins {y : YI} (ha : -9223372036854775808 ≤ y.1.a ∧ y.1.a ≤ 9223372036854775807) : LeO (insO y) 131 := fun bs h => by
  rcases chk_cases y.1 with h0 | ⟨n,h24,hn,hf,h0⟩
  · rw [insO_bad h0] at h;cases h
  · rw [insO_ok hn h0] at h
    cases h
    exact (bytes_len h24 hn hf ha).1
theorem LeO.tem {t : Tem} (ht : temOk t) : LeO (temO t) (20 + 5 * t.params.length + 131 * t.code.length) := by
  have h1 : LeO (xX 0 8 prmO t.params) (10 + costs (fun _ => 5) t.params) := LeO.list (by decide) fun x _ => LeO.prm
  have h2 : LeO (xX 1 128 insO t.code) (10 + costs (fun _ => 131) t.code) := LeO.list (by decide) fun x hx => LeO.ins (ht x hx)
  have e1 := uH (f := fun _ : Prm => 5) (b := 5) (l := t.params) fun _ _ => Nat.le_refl _
  have e2 := uH (f := fun _ : YI => 131) (b := 131) (l := t.code) fun _ _ => Nat.le_refl _
  exact (h1.cat h2).mono (by omega)
theorem few_fits {m : Mdl} (h : FewM m) {x y z : List UInt8} (h1 : sec1O m = some x) (h2 : sec2O m = some y) (h3 : sec3O m = some z) : x.length ≤ 65536 ∧ y.length ≤ 65536 ∧ z.length ≤ 65536 := by
  have hok := ok_few h
  obtain ⟨⟨n1,n2⟩,⟨t1,t2⟩,c1,⟨s1,s2⟩,_⟩ := h
  refine ⟨?_,?_,?_⟩
  · have e1 : costs costN m.nodes ≤ m.nodes.length * 300 := uH fun x hx => by
      have h1 := uH (f := fun _ : Int × Int => 20) (b := 20) (l := x.next) (fun _ _ => Nat.le_refl _)
      have := n2 x hx
      unfold costN;omega
    have := (LeO.list (cost := costN) (by decide) fun x _ => (fun _ hb => nodeO_len hb)) x h1
    omega
  · have hl := (listO_mem h2).2.1
    have e1 : costs (fun t : Tem => 20 + 5 * t.params.length + 131 * t.code.length) m.temps ≤ m.temps.length * 4000 := uH fun x hx => by
      have := t2 x hx
      omega
    have := (LeO.list (cost := fun t : Tem => 20 + 5 * t.params.length + 131 * t.code.length) (by decide) fun x hx => LeO.tem (hok.1 x hx)) y h2
    omega
  · have e1 := uH (f := fun _ : Int × Int => 20) (b := 20) (l := m.chans) fun _ _ => Nat.le_refl _
    have e2 : costs costS m.starts ≤ m.starts.length * 330 := uH fun x hx => by
      have h1 := uH (f := fun _ : Ar => 30) (b := 30) (l := x.args) (fun _ _ => Nat.le_refl _)
      have := s2 x hx
      unfold costS;omega
    have := ((LeO.list (cost := fun _ : Int × Int => 20) (by decide) fun _ _ => LeO.edge).cat (LeO.list (cost := costS) (by decide) fun x hx => staO_len (hok.2 x hx))) z h3
    omega
theorem put_few (m : Mdl) (h : FewM m) : (∃ x y z,sec1O m = some x ∧ sec2O m = some y ∧ sec3O m = some z ∧ (x.length ≤ 65536 ∧ y.length ≤ 65536 ∧ z.length ≤ 65536) ∧ Ct Tryz.prog 9 #[.agg (tN m).toArray] [vY m] (wZ (.tuple #[str (uL x y z),.int .i64 0]) [vY m])) ∨
    ((sec1O m = none ∨ sec2O m = none ∨ sec3O m = none) ∧ Ct Tryz.prog 9 #[.agg (tN m).toArray] [vY m] (wZ (.tuple #[str [],.int .i64 2]) [vY m])) := by
  cases h1 : sec1O m with
  | none => exact .inr ⟨.inl rfl,put11_bad m (small_few h) (.inl h1)⟩
  | some x =>
    cases h2 : sec2O m with
    | none => exact .inr ⟨.inr (.inl rfl),put11_bad m (small_few h) (.inr (.inl h2))⟩
    | some y =>
      cases h3 : sec3O m with
      | none => exact .inr ⟨.inr (.inr rfl),put11_bad m (small_few h) (.inr (.inr h3))⟩
      | some z =>
        have hl := few_fits h h1 h2 h3
        have := put11_ok m (small_few h) h1 h2 h3 (by omega) (by omega) (by omega)
        unfold joinA at this
        rw [if_pos hl] at this
        exact .inl ⟨x,y,z,rfl,rfl,rfl,hl,this⟩
end Go.Proofs.YtickblndgihoeaaGreatDoor

/- Layer 11: where the things of a module that was read stand. -/
namespace Go.Proofs.YtickblndgihoeaaGreatDoor
open Go Go.Sp
end Go.Proofs.YtickblndgihoeaaGreatDoor

/- Layer 11: the document's small functions: in,edge,typ,num,layEdge,layType. -/
namespace Go.Proofs.YtickblndgihoeaaGreatDoor
open Go Go.Sp
theorem wU (x y : OB) : (yY x y).isSome = (x.isSome && y.isSome) := by cases x <;> cases y <;> rfl
theorem numO_eq {n m : Int} {b : List UInt8} (h : xT n m = some b) : 0 ≤ n ∧ n ≤ m ∧ b = wF n := by
  have h1 := numO_le h
  unfold xT at h
  rw [if_pos h1] at h
  cases h
  exact ⟨h1.1,h1.2,rfl⟩
attribute [local irreducible] callFunc Go.method J JL JO JR JR1 JRl Ct JG JM JM1 JW JW1 JQ JQ0 JS CtD yW by8 xT
theorem din_c (n most : Int) : Ct Tryz.prog 121 #[.int .i64 n,.int .i64 most] [] (wZ (.bool (xT n most).isSome) []) := by
  by_cases h1 : 0 ≤ n
  · by_cases h2 : n ≤ most
    · rw [numO_in ⟨h1,h2⟩]
      refine yE (vs := [_,_]) Tryz.func121 rfl Tryz.ntmps121 (by simp) ?_
      repeat (first|(first|refine zB ?_|refine zD ?_|refine zG ?_|refine zR ?_)|(first|((first|refine zA rfl ?_|refine zV rfl rfl ?_);first|refine JOq (JQ_leqT rfl rfl (by omega)) rfl ?_|refine JOq (JQ_geqT rfl rfl (by omega)) rfl ?_|refine zE rfl rfl ?_|refine zC rfl rfl ?_|refine zU rfl rfl rfl ?_)))
      exact zS rfl rfl .nil
    · rw [numO_out (fun h => h2 h.2)]
      refine yE (vs := [_,_]) Tryz.func121 rfl Tryz.ntmps121 (by simp) ?_
      repeat (first|(first|refine zB ?_|refine zD ?_|refine zG ?_|refine zR ?_)|(first|((first|refine zA rfl ?_|refine zV rfl rfl ?_);first|refine JOq (JQ_leqF rfl rfl (by omega)) rfl ?_|refine JOq (JQ_geqT rfl rfl (by omega)) rfl ?_|refine zE rfl rfl ?_|refine zC rfl rfl ?_|refine zU rfl rfl rfl ?_)))
      exact zS rfl rfl .nil
  · rw [numO_out (fun h => h1 h.1)]
    refine yE (vs := [_,_]) Tryz.func121 rfl Tryz.ntmps121 (by simp) ?_
    repeat (first|(first|refine zB ?_|refine zD ?_|refine zG ?_|refine zR ?_)|(first|((first|refine zA rfl ?_);first|refine JOq (JQ_geqF rfl rfl (by omega)) rfl ?_|refine zE rfl rfl ?_|refine zC rfl rfl ?_|refine zY rfl rfl rfl ?_)|refine yN rfl rfl rfl ?_))
    exact zS rfl rfl .nil
theorem dedge_c (e : Int × Int) : Ct Tryz.prog 120 #[.agg (yG e).toArray] [] (wZ (.bool (xB e).isSome) []) := by
  obtain ⟨a,b⟩ := e
  have c1 := din_c a 63
  have c2 := din_c b 1000
  rw [show (xB (a,b)).isSome = ((xT a 63).isSome && (xT b 1000).isSome) from wU _ _]
  generalize (xT a 63).isSome = p at *
  generalize (xT b 1000).isSome = q at *
  refine yE (vs := [_]) Tryz.func120 rfl Tryz.ntmps120 (by simp) ?_
  cases p <;> cases q
  all_goals
    repeat (first|(first|refine zB ?_|refine zD ?_|refine zG ?_|refine zR ?_)|(first|((first|refine zA rfl ?_|refine zV rfl rfl ?_);first|refine zE rfl rfl ?_|refine zC rfl rfl ?_|refine zF rfl rfl ?_|refine zH rfl rfl ?_|refine zU rfl rfl rfl ?_|refine zY rfl rfl rfl ?_|refine yB rfl rfl (fun r => ?_)|refine zO rfl (c1) rfl ?_|refine zO rfl (c2) rfl ?_)|refine yN rfl rfl rfl ?_))
    exact zS rfl rfl .nil
theorem dtyp_c (e : Int × Int) : Ct Tryz.prog 66 #[.agg (yG e).toArray] [] (wZ (.bool (xB e).isSome) []) := by
  obtain ⟨a,b⟩ := e
  have c1 := din_c a 63
  have c2 := din_c b 1000
  rw [show (xB (a,b)).isSome = ((xT a 63).isSome && (xT b 1000).isSome) from wU _ _]
  generalize (xT a 63).isSome = p at *
  generalize (xT b 1000).isSome = q at *
  refine yE (vs := [_]) Tryz.func66 rfl Tryz.ntmps66 (by simp) ?_
  cases p <;> cases q
  all_goals
    repeat (first|(first|refine zB ?_|refine zD ?_|refine zG ?_|refine zR ?_)|(first|((first|refine zA rfl ?_|refine zV rfl rfl ?_);first|refine zE rfl rfl ?_|refine zC rfl rfl ?_|refine zF rfl rfl ?_|refine zH rfl rfl ?_|refine zU rfl rfl rfl ?_|refine zY rfl rfl rfl ?_|refine yB rfl rfl (fun r => ?_)|refine zO rfl (c1) rfl ?_|refine zO rfl (c2) rfl ?_)|refine yN rfl rfl rfl ?_))
    exact zS rfl rfl .nil
theorem uW (n : Int) (h : 0 ≤ n ∧ n < 9223372036854775808) : Ct Tryz.prog 24 #[.int .i64 n] [] (wZ (str (wF n)) []) := by
  obtain ⟨k,rfl⟩ := Int.eq_ofNat_of_zero_le h.1
  have c := bytes_c k (by omega)
  rw [show wF (k : Int) = wE k by unfold wF;rw [Int.toNat_natCast]]
  refine yE (vs := [_]) Tryz.func24 rfl Tryz.ntmps24 (by simp) ?_
  repeat (first|(first|refine zB ?_|refine zD ?_|refine zG ?_|refine zR ?_)|(first|((first|refine zA rfl ?_);first|refine JOq (xG (a := k) rfl (xL (by omega))) rfl ?_|refine zE rfl rfl ?_|refine zC rfl rfl ?_|refine zO rfl (c) rfl ?_)))
  exact zS rfl rfl .nil
theorem dlayEdge_c {e : Int × Int} {b : List UInt8} (h : xB e = some b) : Ct Tryz.prog 69 #[.agg (yG e).toArray] [] (wZ (str b) []) := by
  obtain ⟨x,y⟩ := e
  obtain ⟨a1,a2,h1,h2,rfl⟩ := wO.1 (show yY (xT x 63) (xT y 1000) = some b from h)
  have l1 := xZ h1 (by decide)
  have l2 := xZ h2 (by decide)
  obtain ⟨g1,g2,rfl⟩ := numO_eq h1
  obtain ⟨g3,g4,rfl⟩ := numO_eq h2
  have c1 := uW x (by omega)
  have c2 := uW y (by omega)
  refine yE (vs := [_]) Tryz.func69 rfl Tryz.ntmps69 (by simp) ?_
  repeat (first|(first|refine zB ?_|refine zD ?_|refine zG ?_)|(first|((first|refine zA rfl ?_);first|refine zC rfl rfl ?_|refine yB rfl rfl (fun r => ?_))))
  repeat (first|refine J_regionG ?_|refine JG_fin rfl ?_|refine JG_n rfl rfl rfl (by kernel_rfl) (by kernel_rfl) rfl Ent.sel (by first|exact vG rfl rfl (by omega)|exact uV rfl (xV rfl)|exact tJ rfl|exact vF rfl) ?_|refine JG_jo rfl rfl rfl uU (zO rfl (c1) rfl ⟨Ent.sel,?_⟩)|refine JG_jo rfl rfl rfl uU (zO rfl (c2) rfl ⟨Ent.sel,?_⟩))
  repeat (first|(first|refine zR ?_)|(first|((first|refine zA rfl ?_);first|refine zE rfl rfl ?_)))
  exact zS rfl rfl .nil
theorem dlayType_c {e : Int × Int} {b : List UInt8} (h : xB e = some b) : Ct Tryz.prog 27 #[.agg (yG e).toArray] [] (wZ (str b) []) := by
  obtain ⟨x,y⟩ := e
  obtain ⟨a1,a2,h1,h2,rfl⟩ := wO.1 (show yY (xT x 63) (xT y 1000) = some b from h)
  have l1 := xZ h1 (by decide)
  have l2 := xZ h2 (by decide)
  obtain ⟨g1,g2,rfl⟩ := numO_eq h1
  obtain ⟨g3,g4,rfl⟩ := numO_eq h2
  have c1 := uW x (by omega)
  have c2 := uW y (by omega)
  refine yE (vs := [_]) Tryz.func27 rfl Tryz.ntmps27 (by simp) ?_
  repeat (first|(first|refine zB ?_|refine zD ?_|refine zG ?_)|(first|((first|refine zA rfl ?_);first|refine zC rfl rfl ?_|refine yB rfl rfl (fun r => ?_))))
  repeat (first|refine J_regionG ?_|refine JG_fin rfl ?_|refine JG_n rfl rfl rfl (by kernel_rfl) (by kernel_rfl) rfl Ent.sel (by first|exact vG rfl rfl (by omega)|exact uV rfl (xV rfl)|exact tJ rfl|exact vF rfl) ?_|refine JG_jo rfl rfl rfl uU (zO rfl (c1) rfl ⟨Ent.sel,?_⟩)|refine JG_jo rfl rfl rfl uU (zO rfl (c2) rfl ⟨Ent.sel,?_⟩))
  repeat (first|(first|refine zR ?_)|(first|((first|refine zA rfl ?_);first|refine zE rfl rfl ?_)))
  exact zS rfl rfl .nil
end Go.Proofs.YtickblndgihoeaaGreatDoor

/- Layer 11: the document's node,template,start,May. -/
namespace Go.Proofs.YtickblndgihoeaaGreatDoor
open Go Go.Sp
theorem eq_iiF {t a b : TypeId} {k q : IntKind} [FT Tryz.prog t [(a,0),(b,1)]] [TU Tryz.prog a (.int k)] [TU Tryz.prog b (.int q)] {u v : IntKind} {m n m' n' : Int} (h : ¬ (m = m' ∧ n = n')) (e : Nat) (w : World) : (Op.equalIn (e + 2) t (.agg #[.int u m,.int v n]) (.agg #[.int u m',.int v n'])).run Tryz.prog w = .ok false w := by
  rw [eq_ii]
  have : ((m == m') && (n == n')) = false := by
    simp only [Bool.and_eq_false_iff,beq_eq_false_iff_ne]
    by_cases hm : m = m'
    · exact .inr fun hn => h ⟨hm,hn⟩
    · exact .inl hm
  rw [this]
theorem mustO_isSome (b : Bool) : (xR b).isSome = b := by cases b <;> rfl
theorem take_good {α : Type} {q : α → Prop} {l : List α} {i : Nat} {x : α} (hx : l[i]? = some x) (h : ∀ y ∈ l.take i,q y) (hb : q x) : ∀ y ∈ l.take (i + 1),q y := fun y hy => by
  rw [List.take_add_one,hx] at hy
  rcases List.mem_append.1 hy with h1 | h1
  · exact h y h1
  · simp at h1;rw [h1];exact hb
theorem isSome_f {x : OB} (h : x.isSome = false) : x = none := by cases x with
  | none => rfl
  | some b => cases h
theorem mapO_isSome {α : Type} {o : α → OB} : ∀ {l : List α},(∀ x ∈ l,(o x).isSome = true) → (vR o l).isSome = true
  | [],_ => rfl
  | x :: l,h => by
    show (yY (o x) (vR o l)).isSome = true
    rw [wU,h x (List.mem_cons_self ..),mapO_isSome fun y hy => h y (List.mem_cons_of_mem _ hy)]
    rfl
theorem numO_is (n most : Int) : (xT n most).isSome = decide (0 ≤ n ∧ n ≤ most) := by
  by_cases h : 0 ≤ n ∧ n ≤ most
  · rw [numO_in h];simp [h]
  · rw [numO_out h];simp [h]
theorem listO_is {α : Type} {least most : Int} {o : α → OB} {l : List α} (h : ∀ x ∈ l,(o x).isSome = true) : (xX least most o l).isSome = (decide (least ≤ (l.length : Int)) && decide ((l.length : Int) ≤ most)) := by
  by_cases h1 : least ≤ (l.length : Int)
  · rw [vJ h1,wU,mapO_isSome h,numO_is]
    have : (0 : Int) ≤ (l.length : Int) := by omega
    simp [h1]
  · rw [listO_few h1];simp [h1]
theorem listO_no {α : Type} {least most : Int} {o : α → OB} {l : List α} {x : α} (hx : x ∈ l) (h : o x = none) : xX least most o l = none := by
  by_cases h1 : least ≤ (l.length : Int)
  · rw [vJ h1,mapO_bad h hx,catO_none']
  · rw [listO_few h1]
theorem oneO_bad2 {l : List (Int × Int)} {e : Int × Int} (he : e ∈ l) (h : xB e = none) : oneO l = none := by
  rcases l with _ | ⟨a,_ | ⟨b,l⟩⟩
  · rfl
  · rw [List.mem_singleton] at he;subst he;exact h
  · rfl
theorem node_edgeno {n : Nod} {e : Int × Int} (he : e ∈ n.next) (h : xB e = none) : xS n = none := by
  unfold xS
  have hl : ¬ ((n.next.length : Int) = 0) := by
    have := List.length_pos_of_mem he
    omega
  have hne : n.next ≠ [] := fun h0 => hl (by rw [h0];rfl)
  rw [oneO_bad2 he h,listO_no he h]
  simp [hne,xR]
theorem node_payno {n : Nod} (h : payOk n = false) : xS n = none := by
  unfold xS
  rw [h]
  simp [xR]
def nodeV (n : Nod) : Bool :=
  if n.kind = 0 then decide (n.prio = 0) && (!n.ch && decide ((n.next.length : Int) = 0))
  else if n.kind = 5 then decide (n.prio = 0) && (!n.ch && decide ((n.next.length : Int) = 1))
  else if n.kind = 1 ∨ n.kind = 2 then (xT n.prio 1000).isSome && ((xB n.pay).isSome && decide ((n.next.length : Int) = 1))
  else if n.kind = 3 ∨ n.kind = 4 then (xT n.prio 1000).isSome && (!n.ch && (decide (1 ≤ (n.next.length : Int)) && decide ((n.next.length : Int) ≤ 8)))
  else false
theorem one_is {l : List (Int × Int)} (h : ∀ e ∈ l,(xB e).isSome = true) : (oneO l).isSome = decide ((l.length : Int) = 1) := by
  rcases l with _ | ⟨a,_ | ⟨b,l⟩⟩
  · rfl
  · rw [show oneO [a] = xB a from rfl,h a (by simp)];simp
  · have : ¬ (((a :: b :: l).length : Int) = 1) := by simp only [List.length_cons];omega
    rw [show oneO (a :: b :: l) = none from rfl];simp only [this,decide_false];rfl
theorem node_is {n : Nod} (h : ∀ e ∈ n.next,(xB e).isSome = true) (hp : payOk n = true) : (xS n).isSome = nodeV n := by
  unfold xS nodeV
  split
  · simp only [wU,mustO_isSome,numO_is,hp];simp
  split
  · simp only [wU,mustO_isSome,numO_is,hp,one_is h];simp
  split
  · rename_i h12
    have hk : (xT n.kind 5).isSome = true := by rw [numO_is];simp;omega
    have hf : (flagO n.ch).isSome = true := rfl
    have hpay : (if n.ch = true then xB n.pay else some []).isSome = (xB n.pay).isSome := by
      cases hc : n.ch with
      | true => rfl
      | false =>
        unfold payOk at hp
        rw [hc] at hp
        simp at hp
        have : n.pay = (0,0) := Prod.ext hp.1 hp.2
        rw [this,show xB (0,0) = yY (xT 0 63) (xT 0 1000) from rfl,wU,numO_is,numO_is]
        rfl
    simp only [wU,mustO_isSome,hp,one_is h,hk,hf,hpay];simp
  split
  · rename_i h34
    have hk : (xT n.kind 5).isSome = true := by rw [numO_is];simp;omega
    simp only [wU,mustO_isSome,hp,listO_is h,hk];simp
  · rfl
attribute [local irreducible] callFunc Go.method J JL JO JR JR1 JRl Ct JG JM JM1 JW JW1 JQ JQ0 JS CtD yW ints by8 chkA uI zZ vY vC temO xS staO sec1O sec2O sec3O xT xB oneO xX nodeV
set_option maxHeartbeats 4000000 in
theorem dnode_c (n : Nod) (hb : n.next.length ≤ 100000) : Ct Tryz.prog 64 #[.agg (wI n).toArray] [wV n] (wZ (.bool (xS n).isSome) []) := by
  have hno : ∀ e ∈ n.next,xB e = none → (xS n).isSome = false := fun e he h => by rw [node_edgeno he h];rfl
  have hpn : payOk n = false → (xS n).isSome = false := fun h => by rw [node_payno h];rfl
  have hok : (∀ e ∈ n.next,(xB e).isSome = true) → payOk n = true → (xS n).isSome = nodeV n := node_is
  obtain ⟨v,hv⟩ : ∃ v,v = (xS n).isSome := ⟨_,rfl⟩
  rw [← hv] at hno hpn hok ⊢
  clear hv
  obtain ⟨kind,prio,ch,⟨e1,e2⟩,next,⟨pn,kn⟩⟩ := n
  dsimp only at hb hno hok
  refine yE (vs := [.agg [.int .i64 kind,.int .i64 prio,.bool ch,.int .i64 e1,.int .i64 e2,slc (pn,kn) next.length].toArray]) Tryz.func64 rfl Tryz.ntmps64 (by simp) ?_
  repeat (first|(first|refine zB ?_|refine zD ?_|refine zG ?_)|(first|((first|refine zA rfl ?_);first|refine zC rfl rfl ?_|refine yB rfl rfl (fun r => ?_))))
  revert r
  intro n1
  refine tM (α := { _u : Unit // ∀ x ∈ next,(xB x).isSome = true }) (fun _ => [(1,ptr n1)]) (fun _ => [pt n1 (.cells [.int .i64 kind,.int .i64 prio,.bool ch,.int .i64 e1,.int .i64 e2,slc (pn,kn) next.length].toArray 58 (0,0)),Vw 2 (slc (pn,kn) next.length) next.length (next.flatMap yG)]) ?_ ?_
  · repeat (first|(first|refine zI ?_)|(first|((first|refine zA rfl ?_);first|refine zE rfl rfl ?_)))
    refine xY (β := { i : Nat // i ≤ next.length ∧ ∀ x ∈ next.take i,(xB x).isSome = true }) (fun i => [(1,ptr n1),(3,.int .i64 (i.1 : Int))]) (fun _ => []) (fun _ => [pt n1 (.cells [.int .i64 kind,.int .i64 prio,.bool ch,.int .i64 e1,.int .i64 e2,slc (pn,kn) next.length].toArray 58 (0,0)),Vw 2 (slc (pn,kn) next.length) next.length (next.flatMap yG)]) (fun i => next.length - i.1) ⟨0,by omega,by simp⟩ ?_ rfl Ent.sel ?_
    · (repeat (first|exact zN _|refine zJ rfl ?_))
    rintro ⟨i,hi,hg⟩
    dsimp only
    by_cases hil : i < next.length
    · obtain ⟨x,hx⟩ : ∃ x,next[i]? = some x := ⟨_,List.getElem?_eq_getElem hil⟩
      have hxm := List.mem_of_getElem? hx
      refine wS (φ := ∃ b o,pn = some ⟨b,o,none⟩) (fun F w hs => (Ent.sel (K := [Vw 2 (slc (pn,kn) next.length) next.length (next.flatMap yG)]) F w hs).tail.out (fun k hk => wN (by omega) k hk)) (fun hp => ?_)
      obtain ⟨q1,o1,rfl⟩ := hp
      have c := dedge_c x
      cases hb : (xB x).isSome with
      | false =>
        rw [hb] at c
        obtain rfl := hno x hxm (isSome_f hb)
        repeat (first|(first|refine zB ?_|refine zD ?_|refine zG ?_|refine zI ?_|refine zP ?_|refine zL rfl ?_|refine zR ?_)|(first|((first|refine zA rfl ?_);first|refine JOq (yF rfl rfl (by omega)) rfl ?_|refine xM rfl rfl hil rfl ?_|refine JOq (wC (yG x) rfl (fun u z hu => xJ (b := q1) (o := o1) (n := next.length) (cap := kn) (j := i) hil (by rw [xA edgeC_len _ _ _ _ (by have := (List.getElem?_eq_some_iff.1 hu).1;exact this) hx];exact hu)) rfl) rfl ?_|refine zE rfl rfl ?_|refine zC rfl rfl ?_|refine yA rfl rfl ?_|refine zF rfl rfl ?_|refine zH rfl rfl ?_|refine xF rfl rfl ?_|refine zO rfl (c) rfl ?_)))
        exact zS rfl rfl .nil
      | true =>
        rw [hb] at c
        repeat (first|(first|refine zB ?_|refine zD ?_|refine zG ?_|refine zI ?_|refine zP ?_|refine zL rfl ?_|refine zK rfl ?_)|(first|((first|refine zA rfl ?_);first|refine JOq (yF rfl rfl (by omega)) rfl ?_|refine xM rfl rfl hil rfl ?_|refine JOq (wC (yG x) rfl (fun u z hu => xJ (b := q1) (o := o1) (n := next.length) (cap := kn) (j := i) hil (by rw [xA edgeC_len _ _ _ _ (by have := (List.getElem?_eq_some_iff.1 hu).1;exact this) hx];exact hu)) rfl) rfl ?_|refine xD (b := 1) rfl rfl (by omega) rfl ?_|refine zE rfl rfl ?_|refine zC rfl rfl ?_|refine yA rfl rfl ?_|refine zF rfl rfl ?_|refine zH rfl rfl ?_|refine xF rfl rfl ?_|refine zO rfl (c) rfl ?_)))
        exact ⟨⟨i + 1,by omega,take_good hx hg hb⟩,by simp only;omega,by (repeat (first|exact zN _|refine zJ rfl ?_)),rfl,Ent.sel⟩
    · obtain rfl : i = next.length := by omega
      rw [List.take_length] at hg
      repeat (first|(first|refine zB ?_|refine zD ?_|refine zG ?_|refine zK rfl ?_|refine xN ?_)|(first|((first|refine zA rfl ?_);first|refine JOq (yO rfl rfl (by omega)) rfl ?_|refine zE rfl rfl ?_|refine yA rfl rfl ?_|refine zF rfl rfl ?_|refine zH rfl rfl ?_)))
      exact ⟨⟨(),hg⟩,by (repeat (first|exact zN _|refine zJ rfl ?_)),rfl,Ent.sel⟩
  rintro ⟨⟨⟩,hg⟩
  dsimp only [thn]
  by_cases hpk : ch = false ∧ ¬ (e1 = 0 ∧ e2 = 0)
  · obtain rfl := hpn (by unfold payOk;dsimp only;rw [hpk.1];simp;exact fun h1 h2 => hpk.2 ⟨h1,h2⟩)
    obtain ⟨rfl,hne⟩ := hpk
    repeat (first|(first|refine zB ?_|refine zD ?_|refine zG ?_|refine zL rfl ?_|refine zR ?_)|(first|((first|refine zA rfl ?_|refine zV rfl rfl ?_);first|refine JOq (JQ_neAgg (r := false) rfl rfl (eq_iiF hne 9998)) rfl ?_|refine xI rfl (by simp) rfl ?_|refine yI (cs := yG (0,0)) rfl rfl rfl ?_|refine zE rfl rfl ?_|refine zC rfl rfl ?_|refine zF rfl rfl ?_|refine zH rfl rfl ?_|refine zU rfl rfl rfl ?_|refine xF rfl rfl ?_)))
    exact zS rfl rfl .nil
  have hk : payOk (⟨kind,prio,ch,(e1,e2),next,(pn,kn)⟩ : Nod) = true := by
    unfold payOk
    cases ch with
    | true => rfl
    | false => simp at hpk ⊢;exact hpk
  obtain rfl := hok hg hk
  have pay0 : ch = false → e1 = 0 ∧ e2 = 0 := fun h => by simp [h] at hpk;exact hpk
  clear hno hpn hk hpk
  refine zG ?_
  refine tM (α := Unit) (fun _ => [(1,ptr n1)]) (fun _ => [pt n1 (.cells [.int .i64 kind,.int .i64 prio,.bool ch,.int .i64 e1,.int .i64 e2,slc (pn,kn) next.length].toArray 58 (0,0))]) ?_ ?_
  · cases ch with
    | true =>
      repeat (first|(first|refine zB ?_|refine zD ?_|refine zG ?_|refine zP ?_|refine zK rfl ?_)|(first|((first|refine zA rfl ?_);first|refine zE rfl rfl ?_|refine zF rfl rfl ?_|refine zH rfl rfl ?_|refine zY rfl rfl rfl ?_|refine xF rfl rfl ?_)|refine yN rfl rfl rfl ?_))
      exact ⟨(),by (repeat (first|exact zN _|refine zJ rfl ?_)),rfl,Ent.sel⟩
    | false =>
      obtain ⟨rfl,rfl⟩ := pay0 rfl
      repeat (first|(first|refine zB ?_|refine zD ?_|refine zG ?_|refine zP ?_|refine zK rfl ?_)|(first|((first|refine zA rfl ?_|refine zV rfl rfl ?_);first|refine JOq (JQ_neAgg (r := true) rfl rfl (eq_iiS 0 0 9998)) rfl ?_|refine xI rfl (by simp) rfl ?_|refine yI (cs := yG (0,0)) rfl rfl rfl ?_|refine zE rfl rfl ?_|refine zF rfl rfl ?_|refine zH rfl rfl ?_|refine zU rfl rfl rfl ?_|refine xF rfl rfl ?_)))
      exact ⟨(),by (repeat (first|exact zN _|refine zJ rfl ?_)),rfl,Ent.sel⟩
  rintro ⟨⟩
  dsimp only [thn]
  have ci := din_c prio 1000
  have ce := dedge_c (e1,e2)
  have hlow : 0 ≤ (next.length : Int) := by omega
  obtain ⟨v,hv⟩ : ∃ v,v = nodeV (⟨kind,prio,ch,(e1,e2),next,(pn,kn)⟩ : Nod) := ⟨_,rfl⟩
  rw [← hv]
  unfold nodeV at hv
  dsimp only at hv
  obtain ⟨N,hN⟩ : ∃ N : Int,N = next.length := ⟨_,rfl⟩
  rw [← hN] at hv
  by_cases k0 : kind = 0
  · subst k0
    by_cases hp : prio = 0
    · cases ch with
      | true =>
        obtain rfl : v = false := by rw [hv];simp [hp]
        repeat (first|(first|refine zB ?_|refine zD ?_|refine zG ?_|refine zI ?_|refine zL rfl ?_|refine zR ?_)|(first|((first|refine zA rfl ?_|refine zV rfl rfl ?_);first|refine JOq (yX rfl rfl (by omega)) rfl ?_|refine zE rfl rfl ?_|refine zC rfl rfl ?_|refine zF rfl rfl ?_|refine zH rfl rfl ?_|refine zU rfl rfl rfl ?_|refine zY rfl rfl rfl ?_|refine xF rfl rfl ?_)|refine yN rfl rfl rfl ?_))
        exact zS rfl rfl .nil
      | false =>
        by_cases hl : N = 0
        · skip
          obtain rfl : v = true := by rw [hv];simp [hp,hl]
          repeat (first|(first|refine zB ?_|refine zD ?_|refine zG ?_|refine zI ?_|refine zL rfl ?_|refine zR ?_)|(first|((first|refine zA rfl ?_|refine zV rfl rfl ?_);first|refine JOq (yX rfl rfl (by omega)) rfl ?_|refine zE rfl rfl ?_|refine zC rfl rfl ?_|refine yA rfl rfl ?_|refine zF rfl rfl ?_|refine zH rfl rfl ?_|refine zU rfl rfl rfl ?_|refine xF rfl rfl ?_)))
          exact zS rfl rfl .nil
        · skip
          obtain rfl : v = false := by rw [hv];simp [hp,hl]
          repeat (first|(first|refine zB ?_|refine zD ?_|refine zG ?_|refine zI ?_|refine zL rfl ?_|refine zR ?_)|(first|((first|refine zA rfl ?_|refine zV rfl rfl ?_);first|refine JOq (yX rfl rfl (by omega)) rfl ?_|refine JOq (yM rfl rfl (by omega)) rfl ?_|refine zE rfl rfl ?_|refine zC rfl rfl ?_|refine yA rfl rfl ?_|refine zF rfl rfl ?_|refine zH rfl rfl ?_|refine zU rfl rfl rfl ?_|refine xF rfl rfl ?_)))
          exact zS rfl rfl .nil
    · skip
      obtain rfl : v = false := by rw [hv];simp [hp]
      repeat (first|(first|refine zB ?_|refine zD ?_|refine zG ?_|refine zI ?_|refine zL rfl ?_|refine zR ?_)|(first|((first|refine zA rfl ?_);first|refine JOq (yX rfl rfl (by omega)) rfl ?_|refine JOq (yM rfl rfl (by omega)) rfl ?_|refine zE rfl rfl ?_|refine zC rfl rfl ?_|refine zF rfl rfl ?_|refine zH rfl rfl ?_|refine zY rfl rfl rfl ?_)|refine yN rfl rfl rfl ?_))
      exact zS rfl rfl .nil
  by_cases k5 : kind = 5
  · subst k5
    by_cases hp : prio = 0
    · cases ch with
      | true =>
        obtain rfl : v = false := by rw [hv];simp [hp]
        repeat (first|(first|refine zB ?_|refine zD ?_|refine zG ?_|refine zI ?_|refine zL rfl ?_|refine zK rfl ?_|refine zR ?_)|(first|((first|refine zA rfl ?_|refine zV rfl rfl ?_);first|refine JOq (yX rfl rfl (by omega)) rfl ?_|refine JOq (yM rfl rfl (by omega)) rfl ?_|refine zE rfl rfl ?_|refine zC rfl rfl ?_|refine zF rfl rfl ?_|refine zH rfl rfl ?_|refine zU rfl rfl rfl ?_|refine zY rfl rfl rfl ?_|refine xF rfl rfl ?_)|refine yN rfl rfl rfl ?_))
        exact zS rfl rfl .nil
      | false =>
        by_cases hl : N = 1
        · skip
          obtain rfl : v = true := by rw [hv];simp [hp,hl]
          repeat (first|(first|refine zB ?_|refine zD ?_|refine zG ?_|refine zI ?_|refine zL rfl ?_|refine zK rfl ?_|refine zR ?_)|(first|((first|refine zA rfl ?_|refine zV rfl rfl ?_);first|refine JOq (yX rfl rfl (by omega)) rfl ?_|refine JOq (yM rfl rfl (by omega)) rfl ?_|refine zE rfl rfl ?_|refine zC rfl rfl ?_|refine yA rfl rfl ?_|refine zF rfl rfl ?_|refine zH rfl rfl ?_|refine zU rfl rfl rfl ?_|refine xF rfl rfl ?_)))
          exact zS rfl rfl .nil
        · skip
          obtain rfl : v = false := by rw [hv];simp [hp,hl]
          repeat (first|(first|refine zB ?_|refine zD ?_|refine zG ?_|refine zI ?_|refine zL rfl ?_|refine zK rfl ?_|refine zR ?_)|(first|((first|refine zA rfl ?_|refine zV rfl rfl ?_);first|refine JOq (yX rfl rfl (by omega)) rfl ?_|refine JOq (yM rfl rfl (by omega)) rfl ?_|refine zE rfl rfl ?_|refine zC rfl rfl ?_|refine yA rfl rfl ?_|refine zF rfl rfl ?_|refine zH rfl rfl ?_|refine zU rfl rfl rfl ?_|refine xF rfl rfl ?_)))
          exact zS rfl rfl .nil
    · skip
      obtain rfl : v = false := by rw [hv];simp [hp]
      repeat (first|(first|refine zB ?_|refine zD ?_|refine zG ?_|refine zI ?_|refine zL rfl ?_|refine zK rfl ?_|refine zR ?_)|(first|((first|refine zA rfl ?_);first|refine JOq (yX rfl rfl (by omega)) rfl ?_|refine JOq (yM rfl rfl (by omega)) rfl ?_|refine zE rfl rfl ?_|refine zC rfl rfl ?_|refine zF rfl rfl ?_|refine zH rfl rfl ?_|refine zY rfl rfl rfl ?_)|refine yN rfl rfl rfl ?_))
      exact zS rfl rfl .nil
  by_cases k1 : kind = 1
  · subst k1
    cases ha : (xT prio 1000).isSome with
    | false =>
      rw [ha] at ci
      obtain rfl : v = false := by rw [hv];simp [ha]
      repeat (first|(first|refine zB ?_|refine zD ?_|refine zG ?_|refine zI ?_|refine zP ?_|refine zL rfl ?_|refine zK rfl ?_|refine zR ?_)|(first|((first|refine zA rfl ?_);first|refine JOq (yX rfl rfl (by omega)) rfl ?_|refine JOq (yM rfl rfl (by omega)) rfl ?_|refine zE rfl rfl ?_|refine zC rfl rfl ?_|refine zF rfl rfl ?_|refine zH rfl rfl ?_|refine zY rfl rfl rfl ?_|refine zO rfl (ci) rfl ?_)|refine yN rfl rfl rfl ?_))
      exact zS rfl rfl .nil
    | true =>
      rw [ha] at ci
      cases hb : (xB (e1,e2)).isSome with
      | false =>
        rw [hb] at ce
        obtain rfl : v = false := by rw [hv];simp [ha,hb]
        repeat (first|(first|refine zB ?_|refine zD ?_|refine zG ?_|refine zI ?_|refine zP ?_|refine zL rfl ?_|refine zK rfl ?_|refine zR ?_)|(first|((first|refine zA rfl ?_|refine zV rfl rfl ?_);first|refine JOq (yX rfl rfl (by omega)) rfl ?_|refine JOq (yM rfl rfl (by omega)) rfl ?_|refine xI rfl (by simp) rfl ?_|refine zE rfl rfl ?_|refine zC rfl rfl ?_|refine zF rfl rfl ?_|refine zH rfl rfl ?_|refine zU rfl rfl rfl ?_|refine zY rfl rfl rfl ?_|refine zO rfl (ci) rfl ?_|refine zO rfl (ce) rfl ?_)|refine yN rfl rfl rfl ?_))
        exact zS rfl rfl .nil
      | true =>
        rw [hb] at ce
        by_cases hl : N = 1
        · skip
          obtain rfl : v = true := by rw [hv];simp [ha,hb,hl]
          repeat (first|(first|refine zB ?_|refine zD ?_|refine zG ?_|refine zI ?_|refine zP ?_|refine zL rfl ?_|refine zK rfl ?_|refine zR ?_)|(first|((first|refine zA rfl ?_|refine zV rfl rfl ?_);first|refine JOq (yX rfl rfl (by omega)) rfl ?_|refine JOq (yM rfl rfl (by omega)) rfl ?_|refine xI rfl (by simp) rfl ?_|refine zE rfl rfl ?_|refine zC rfl rfl ?_|refine yA rfl rfl ?_|refine zF rfl rfl ?_|refine zH rfl rfl ?_|refine zU rfl rfl rfl ?_|refine zO rfl (ci) rfl ?_|refine zO rfl (ce) rfl ?_)))
          exact zS rfl rfl .nil
        · skip
          obtain rfl : v = false := by rw [hv];simp [ha,hb,hl]
          repeat (first|(first|refine zB ?_|refine zD ?_|refine zG ?_|refine zI ?_|refine zP ?_|refine zL rfl ?_|refine zK rfl ?_|refine zR ?_)|(first|((first|refine zA rfl ?_|refine zV rfl rfl ?_);first|refine JOq (yX rfl rfl (by omega)) rfl ?_|refine JOq (yM rfl rfl (by omega)) rfl ?_|refine xI rfl (by simp) rfl ?_|refine zE rfl rfl ?_|refine zC rfl rfl ?_|refine yA rfl rfl ?_|refine zF rfl rfl ?_|refine zH rfl rfl ?_|refine zU rfl rfl rfl ?_|refine zO rfl (ci) rfl ?_|refine zO rfl (ce) rfl ?_)))
          exact zS rfl rfl .nil
  by_cases k2 : kind = 2
  · subst k2
    cases ha : (xT prio 1000).isSome with
    | false =>
      rw [ha] at ci
      obtain rfl : v = false := by rw [hv];simp [ha]
      repeat (first|(first|refine zB ?_|refine zD ?_|refine zG ?_|refine zI ?_|refine zL rfl ?_|refine zK rfl ?_|refine zR ?_)|(first|((first|refine zA rfl ?_);first|refine JOq (yX rfl rfl (by omega)) rfl ?_|refine JOq (yM rfl rfl (by omega)) rfl ?_|refine zE rfl rfl ?_|refine zC rfl rfl ?_|refine zF rfl rfl ?_|refine zH rfl rfl ?_|refine zY rfl rfl rfl ?_|refine zO rfl (ci) rfl ?_)|refine yN rfl rfl rfl ?_))
      exact zS rfl rfl .nil
    | true =>
      rw [ha] at ci
      cases hb : (xB (e1,e2)).isSome with
      | false =>
        rw [hb] at ce
        obtain rfl : v = false := by rw [hv];simp [ha,hb]
        repeat (first|(first|refine zB ?_|refine zD ?_|refine zG ?_|refine zI ?_|refine zL rfl ?_|refine zK rfl ?_|refine zR ?_)|(first|((first|refine zA rfl ?_|refine zV rfl rfl ?_);first|refine JOq (yX rfl rfl (by omega)) rfl ?_|refine JOq (yM rfl rfl (by omega)) rfl ?_|refine xI rfl (by simp) rfl ?_|refine zE rfl rfl ?_|refine zC rfl rfl ?_|refine zF rfl rfl ?_|refine zH rfl rfl ?_|refine zU rfl rfl rfl ?_|refine zY rfl rfl rfl ?_|refine zO rfl (ci) rfl ?_|refine zO rfl (ce) rfl ?_)|refine yN rfl rfl rfl ?_))
        exact zS rfl rfl .nil
      | true =>
        rw [hb] at ce
        by_cases hl : N = 1
        · skip
          obtain rfl : v = true := by rw [hv];simp [ha,hb,hl]
          repeat (first|(first|refine zB ?_|refine zD ?_|refine zG ?_|refine zI ?_|refine zL rfl ?_|refine zK rfl ?_|refine zR ?_)|(first|((first|refine zA rfl ?_|refine zV rfl rfl ?_);first|refine JOq (yX rfl rfl (by omega)) rfl ?_|refine JOq (yM rfl rfl (by omega)) rfl ?_|refine xI rfl (by simp) rfl ?_|refine zE rfl rfl ?_|refine zC rfl rfl ?_|refine yA rfl rfl ?_|refine zF rfl rfl ?_|refine zH rfl rfl ?_|refine zU rfl rfl rfl ?_|refine zO rfl (ci) rfl ?_|refine zO rfl (ce) rfl ?_)))
          exact zS rfl rfl .nil
        · skip
          obtain rfl : v = false := by rw [hv];simp [ha,hb,hl]
          repeat (first|(first|refine zB ?_|refine zD ?_|refine zG ?_|refine zI ?_|refine zL rfl ?_|refine zK rfl ?_|refine zR ?_)|(first|((first|refine zA rfl ?_|refine zV rfl rfl ?_);first|refine JOq (yX rfl rfl (by omega)) rfl ?_|refine JOq (yM rfl rfl (by omega)) rfl ?_|refine xI rfl (by simp) rfl ?_|refine zE rfl rfl ?_|refine zC rfl rfl ?_|refine yA rfl rfl ?_|refine zF rfl rfl ?_|refine zH rfl rfl ?_|refine zU rfl rfl rfl ?_|refine zO rfl (ci) rfl ?_|refine zO rfl (ce) rfl ?_)))
          exact zS rfl rfl .nil
  by_cases k3 : kind = 3
  · subst k3
    cases ha : (xT prio 1000).isSome with
    | false =>
      rw [ha] at ci
      obtain rfl : v = false := by rw [hv];simp [ha]
      repeat (first|(first|refine zB ?_|refine zD ?_|refine zG ?_|refine zI ?_|refine zP ?_|refine zL rfl ?_|refine zK rfl ?_|refine zR ?_)|(first|((first|refine zA rfl ?_);first|refine JOq (yX rfl rfl (by omega)) rfl ?_|refine JOq (yM rfl rfl (by omega)) rfl ?_|refine zE rfl rfl ?_|refine zC rfl rfl ?_|refine zF rfl rfl ?_|refine zH rfl rfl ?_|refine zY rfl rfl rfl ?_|refine zO rfl (ci) rfl ?_)|refine yN rfl rfl rfl ?_))
      exact zS rfl rfl .nil
    | true =>
      rw [ha] at ci
      cases ch with
      | true =>
        obtain rfl : v = false := by rw [hv];simp [ha]
        repeat (first|(first|refine zB ?_|refine zD ?_|refine zG ?_|refine zI ?_|refine zP ?_|refine zL rfl ?_|refine zK rfl ?_|refine zR ?_)|(first|((first|refine zA rfl ?_|refine zV rfl rfl ?_);first|refine JOq (yX rfl rfl (by omega)) rfl ?_|refine JOq (yM rfl rfl (by omega)) rfl ?_|refine zE rfl rfl ?_|refine zC rfl rfl ?_|refine zF rfl rfl ?_|refine zH rfl rfl ?_|refine zU rfl rfl rfl ?_|refine zY rfl rfl rfl ?_|refine xF rfl rfl ?_|refine zO rfl (ci) rfl ?_)|refine yN rfl rfl rfl ?_))
        exact zS rfl rfl .nil
      | false =>
        by_cases hl : 1 ≤ N
        · by_cases hm : N ≤ 8
          · skip
            obtain rfl : v = true := by rw [hv];simp [ha,hl,hm]
            repeat (first|(first|refine zB ?_|refine zD ?_|refine zG ?_|refine zI ?_|refine zP ?_|refine zL rfl ?_|refine zK rfl ?_|refine zR ?_)|(first|((first|refine zA rfl ?_|refine zV rfl rfl ?_);first|refine JOq (JQ_leqT rfl rfl (by omega)) rfl ?_|refine JOq (JQ_geqT rfl rfl (by omega)) rfl ?_|refine JOq (yX rfl rfl (by omega)) rfl ?_|refine JOq (yM rfl rfl (by omega)) rfl ?_|refine zE rfl rfl ?_|refine zC rfl rfl ?_|refine yA rfl rfl ?_|refine zF rfl rfl ?_|refine zH rfl rfl ?_|refine zU rfl rfl rfl ?_|refine xF rfl rfl ?_|refine zO rfl (ci) rfl ?_)))
            exact zS rfl rfl .nil
          · skip
            obtain rfl : v = false := by rw [hv];simp [ha,hl,hm]
            repeat (first|(first|refine zB ?_|refine zD ?_|refine zG ?_|refine zI ?_|refine zP ?_|refine zL rfl ?_|refine zK rfl ?_|refine zR ?_)|(first|((first|refine zA rfl ?_|refine zV rfl rfl ?_);first|refine JOq (JQ_leqF rfl rfl (by omega)) rfl ?_|refine JOq (JQ_geqT rfl rfl (by omega)) rfl ?_|refine JOq (yX rfl rfl (by omega)) rfl ?_|refine JOq (yM rfl rfl (by omega)) rfl ?_|refine zE rfl rfl ?_|refine zC rfl rfl ?_|refine yA rfl rfl ?_|refine zF rfl rfl ?_|refine zH rfl rfl ?_|refine zU rfl rfl rfl ?_|refine xF rfl rfl ?_|refine zO rfl (ci) rfl ?_)))
            exact zS rfl rfl .nil
        · skip
          obtain rfl : v = false := by rw [hv];simp [ha,hl]
          repeat (first|(first|refine zB ?_|refine zD ?_|refine zG ?_|refine zI ?_|refine zP ?_|refine zL rfl ?_|refine zK rfl ?_|refine zR ?_)|(first|((first|refine zA rfl ?_|refine zV rfl rfl ?_);first|refine JOq (JQ_geqF rfl rfl (by omega)) rfl ?_|refine JOq (yX rfl rfl (by omega)) rfl ?_|refine JOq (yM rfl rfl (by omega)) rfl ?_|refine zE rfl rfl ?_|refine zC rfl rfl ?_|refine yA rfl rfl ?_|refine zF rfl rfl ?_|refine zH rfl rfl ?_|refine zU rfl rfl rfl ?_|refine zY rfl rfl rfl ?_|refine xF rfl rfl ?_|refine zO rfl (ci) rfl ?_)|refine yN rfl rfl rfl ?_))
          exact zS rfl rfl .nil
  by_cases k4 : kind = 4
  · subst k4
    cases ha : (xT prio 1000).isSome with
    | false =>
      rw [ha] at ci
      obtain rfl : v = false := by rw [hv];simp [ha]
      repeat (first|(first|refine zB ?_|refine zD ?_|refine zG ?_|refine zI ?_|refine zL rfl ?_|refine zK rfl ?_|refine zR ?_)|(first|((first|refine zA rfl ?_);first|refine JOq (yX rfl rfl (by omega)) rfl ?_|refine JOq (yM rfl rfl (by omega)) rfl ?_|refine zE rfl rfl ?_|refine zC rfl rfl ?_|refine zF rfl rfl ?_|refine zH rfl rfl ?_|refine zY rfl rfl rfl ?_|refine zO rfl (ci) rfl ?_)|refine yN rfl rfl rfl ?_))
      exact zS rfl rfl .nil
    | true =>
      rw [ha] at ci
      cases ch with
      | true =>
        obtain rfl : v = false := by rw [hv];simp [ha]
        repeat (first|(first|refine zB ?_|refine zD ?_|refine zG ?_|refine zI ?_|refine zL rfl ?_|refine zK rfl ?_|refine zR ?_)|(first|((first|refine zA rfl ?_|refine zV rfl rfl ?_);first|refine JOq (yX rfl rfl (by omega)) rfl ?_|refine JOq (yM rfl rfl (by omega)) rfl ?_|refine zE rfl rfl ?_|refine zC rfl rfl ?_|refine zF rfl rfl ?_|refine zH rfl rfl ?_|refine zU rfl rfl rfl ?_|refine zY rfl rfl rfl ?_|refine xF rfl rfl ?_|refine zO rfl (ci) rfl ?_)|refine yN rfl rfl rfl ?_))
        exact zS rfl rfl .nil
      | false =>
        by_cases hl : 1 ≤ N
        · by_cases hm : N ≤ 8
          · skip
            obtain rfl : v = true := by rw [hv];simp [ha,hl,hm]
            repeat (first|(first|refine zB ?_|refine zD ?_|refine zG ?_|refine zI ?_|refine zL rfl ?_|refine zK rfl ?_|refine zR ?_)|(first|((first|refine zA rfl ?_|refine zV rfl rfl ?_);first|refine JOq (JQ_leqT rfl rfl (by omega)) rfl ?_|refine JOq (JQ_geqT rfl rfl (by omega)) rfl ?_|refine JOq (yX rfl rfl (by omega)) rfl ?_|refine JOq (yM rfl rfl (by omega)) rfl ?_|refine zE rfl rfl ?_|refine zC rfl rfl ?_|refine yA rfl rfl ?_|refine zF rfl rfl ?_|refine zH rfl rfl ?_|refine zU rfl rfl rfl ?_|refine xF rfl rfl ?_|refine zO rfl (ci) rfl ?_)))
            exact zS rfl rfl .nil
          · skip
            obtain rfl : v = false := by rw [hv];simp [ha,hl,hm]
            repeat (first|(first|refine zB ?_|refine zD ?_|refine zG ?_|refine zI ?_|refine zL rfl ?_|refine zK rfl ?_|refine zR ?_)|(first|((first|refine zA rfl ?_|refine zV rfl rfl ?_);first|refine JOq (JQ_leqF rfl rfl (by omega)) rfl ?_|refine JOq (JQ_geqT rfl rfl (by omega)) rfl ?_|refine JOq (yX rfl rfl (by omega)) rfl ?_|refine JOq (yM rfl rfl (by omega)) rfl ?_|refine zE rfl rfl ?_|refine zC rfl rfl ?_|refine yA rfl rfl ?_|refine zF rfl rfl ?_|refine zH rfl rfl ?_|refine zU rfl rfl rfl ?_|refine xF rfl rfl ?_|refine zO rfl (ci) rfl ?_)))
            exact zS rfl rfl .nil
        · skip
          obtain rfl : v = false := by rw [hv];simp [ha,hl]
          repeat (first|(first|refine zB ?_|refine zD ?_|refine zG ?_|refine zI ?_|refine zL rfl ?_|refine zK rfl ?_|refine zR ?_)|(first|((first|refine zA rfl ?_|refine zV rfl rfl ?_);first|refine JOq (JQ_geqF rfl rfl (by omega)) rfl ?_|refine JOq (yX rfl rfl (by omega)) rfl ?_|refine JOq (yM rfl rfl (by omega)) rfl ?_|refine zE rfl rfl ?_|refine zC rfl rfl ?_|refine yA rfl rfl ?_|refine zF rfl rfl ?_|refine zH rfl rfl ?_|refine zU rfl rfl rfl ?_|refine zY rfl rfl rfl ?_|refine xF rfl rfl ?_|refine zO rfl (ci) rfl ?_)|refine yN rfl rfl rfl ?_))
          exact zS rfl rfl .nil
  obtain rfl : v = false := by rw [hv];simp [k0,k5,k1,k2,k3,k4]
  repeat (first|(first|refine zB ?_|refine zD ?_|refine zG ?_|refine zI ?_|refine zP ?_|refine zK rfl ?_|refine zR ?_)|(first|((first|refine zA rfl ?_);first|refine JOq (yM rfl rfl (by omega)) rfl ?_|refine zC rfl rfl ?_|refine zF rfl rfl ?_|refine zH rfl rfl ?_)))
  exact zS rfl rfl .nil
end Go.Proofs.YtickblndgihoeaaGreatDoor

/- Layer 11: the document's template,start,May. -/
namespace Go.Proofs.YtickblndgihoeaaGreatDoor
open Go Go.Sp
theorem prm_is (p : Prm) : (prmO p).isSome = if p.ch then (xB p.ty).isSome else (p.ty.1 == 0 && p.ty.2 == 0) := by
  obtain ⟨ch,e⟩ := p
  cases ch with
  | true => rw [prmO_t,wU];rfl
  | false => rw [prmO_f,wU,mustO_isSome];rfl
theorem ar_is (p : Ar) : (arO p).isSome = if p.ch then (decide (p.word = 0) && (xT p.en 31).isSome) else decide (p.en = 0) := by
  obtain ⟨ch,w,e⟩ := p
  cases ch with
  | true => rw [arO_t,wU,wU,mustO_isSome];rfl
  | false =>
    have hf : (flagO false).isSome = true := rfl
    rw [arO_f,wU,wU,mustO_isSome,hf];simp
theorem ins_is (y : YI) : (insO y).isSome = decide (chkA y.1 = 0) := by
  unfold insO
  by_cases h : chkA y.1 = 0
  · rw [if_pos h];simp [h]
  · rw [if_neg h];simp [h]
theorem tem_is (t : Tem) : (temO t).isSome = ((xX 0 8 prmO t.params).isSome && (xX 1 128 insO t.code).isSome) := wU _ _
theorem tem_no1 {t : Tem} {p : Prm} (hp : p ∈ t.params) (h : (prmO p).isSome = false) : (temO t).isSome = false := by
  rw [tem_is,listO_no hp (isSome_f h)];rfl
theorem tem_no2 {t : Tem} {y : YI} (hy : y ∈ t.code) (h : (insO y).isSome = false) : (temO t).isSome = false := by
  rw [tem_is,listO_no hy (isSome_f h),Bool.and_comm];rfl
theorem sta_is (s : Sta) : (staO s).isSome = ((xT s.tm 15).isSome && (xX 0 8 arO s.args).isSome) := wU _ _
theorem sta_no {s : Sta} {p : Ar} (hp : p ∈ s.args) (h : (arO p).isSome = false) : (staO s).isSome = false := by
  rw [sta_is,listO_no hp (isSome_f h),Bool.and_comm];rfl
theorem insR_row (y : YI) {L : List HP} : Ent (tB y :: L) (Vw 1 (.slice y.2.1 y.1.l.length y.2.2) y.1.l.length (ints y.1.l) :: L) := ent_turn fun _ h => h.2
attribute [local irreducible] callFunc Go.method J JL JO JR JR1 JRl Ct JG JM JM1 JW JW1 JQ JQ0 JS CtD yW ints by8 chkA uI zZ vY vC temO xS staO sec1O sec2O sec3O xT xB oneO xX prmO insO arO
set_option maxHeartbeats 4000000 in
theorem dtemplate_c (t : Tem) (hb1 : t.params.length ≤ 100000) (hb2 : t.code.length ≤ 100000) : Ct Tryz.prog 65 #[.agg (wK t).toArray] [vW t] (wZ (.bool (temO t).isSome) []) := by
  have hno1 : ∀ p ∈ t.params,(prmO p).isSome = false → (temO t).isSome = false := fun _ => tem_no1
  have hno2 : ∀ p ∈ t.code,(insO p).isSome = false → (temO t).isSome = false := fun _ => tem_no2
  have hok : (∀ p ∈ t.params,(prmO p).isSome = true) → (∀ p ∈ t.code,(insO p).isSome = true) → (temO t).isSome = ((decide ((0 : Int) ≤ (t.params.length : Int)) && decide ((t.params.length : Int) ≤ 8)) && (decide ((1 : Int) ≤ (t.code.length : Int)) && decide ((t.code.length : Int) ≤ 128))) := fun h1 h2 => by rw [tem_is,listO_is h1,listO_is h2]
  obtain ⟨v,hv⟩ : ∃ v,v = (temO t).isSome := ⟨_,rfl⟩
  rw [← hv] at hno1 hno2 hok ⊢
  clear hv
  obtain ⟨params,⟨pp,kp⟩,code,⟨pc,kc⟩,wt,⟨pw,kw⟩⟩ := t
  dsimp only at hb1 hb2 hno1 hno2 hok
  refine Ct.heap (ent_split (A := vW _) (M := [Vw 3 (slc (pp,kp) params.length) params.length (params.flatMap prmC),Vw 6 (slc (pc,kc) code.length) code.length (code.flatMap vL),zZ tB code]) fun k hk => star_pers (temR_K _ k hk)) ?_
  rw [List.append_nil]
  refine yE (vs := [.agg [slc (pp,kp) params.length,slc (pc,kc) code.length,slc (pw,kw) wt.length].toArray]) Tryz.func65 rfl Tryz.ntmps65 (by simp) ?_
  repeat (first|(first|refine zB ?_|refine zD ?_|refine zG ?_)|(first|((first|refine zA rfl ?_);first|refine zC rfl rfl ?_|refine yB rfl rfl (fun r => ?_))))
  revert r
  intro n1
  refine tM (α := { _u : Unit // ∀ x ∈ params,(prmO x).isSome = true }) (fun _ => [(1,ptr n1)]) (fun _ => [pt n1 (.cells [slc (pp,kp) params.length,slc (pc,kc) code.length,slc (pw,kw) wt.length].toArray 50 (0,0)),Vw 3 (slc (pp,kp) params.length) params.length (params.flatMap prmC),Vw 6 (slc (pc,kc) code.length) code.length (code.flatMap vL),zZ tB code]) ?_ ?_
  · repeat (first|(first|refine zI ?_)|(first|((first|refine zA rfl ?_);first|refine zE rfl rfl ?_)))
    refine xY (β := { i : Nat // i ≤ params.length ∧ ∀ x ∈ params.take i,(prmO x).isSome = true }) (fun i => [(1,ptr n1),(3,.int .i64 (i.1 : Int))]) (fun _ => []) (fun _ => [pt n1 (.cells [slc (pp,kp) params.length,slc (pc,kc) code.length,slc (pw,kw) wt.length].toArray 50 (0,0)),Vw 3 (slc (pp,kp) params.length) params.length (params.flatMap prmC),Vw 6 (slc (pc,kc) code.length) code.length (code.flatMap vL),zZ tB code]) (fun i => params.length - i.1) ⟨0,by omega,by simp⟩ ?_ rfl Ent.sel ?_
    · (repeat (first|exact zN _|refine zJ rfl ?_))
    rintro ⟨i,hi,hg⟩
    dsimp only
    by_cases hil : i < params.length
    · obtain ⟨x,hx⟩ : ∃ x,params[i]? = some x := ⟨_,List.getElem?_eq_getElem hil⟩
      have hxm := List.mem_of_getElem? hx
      refine wS (φ := ∃ b o,pp = some ⟨b,o,none⟩) (fun F w hs => (Ent.sel (K := [Vw 3 (slc (pp,kp) params.length) params.length (params.flatMap prmC)]) F w hs).tail.out (fun k hk => wN (by omega) k hk)) (fun hp => ?_)
      obtain ⟨q1,o1,rfl⟩ := hp
      obtain ⟨ch,e1,e2⟩ := x
      have hpi := prm_is ⟨ch,(e1,e2)⟩
      dsimp only at hpi
      cases ch with
      | true =>
        have c := dtyp_c (e1,e2)
        rw [if_pos rfl] at hpi
        cases hb : (xB (e1,e2)).isSome with
        | false =>
          rw [hb] at c hpi
          obtain rfl := hno1 _ hxm hpi
          repeat (first|(first|refine zB ?_|refine zD ?_|refine zG ?_|refine zI ?_|refine zP ?_|refine zL rfl ?_|refine zR ?_)|(first|((first|refine zA rfl ?_|refine zV rfl rfl ?_);first|refine JOq (yF rfl rfl (by omega)) rfl ?_|refine xM rfl rfl hil rfl ?_|refine JOq (wC [.bool true,.int .i64 e1,.int .i64 e2] rfl (fun u z hu => xJ (b := q1) (o := o1) (n := params.length) (cap := kp) (j := i) hil (by rw [xA prmC_len _ _ _ _ (by have := (List.getElem?_eq_some_iff.1 hu).1;exact this) hx];exact hu)) rfl) rfl ?_|refine zT rfl rfl (by rfl) (by rfl) (by simp [Value.oneCell']) rfl ?_|refine xI rfl (by simp) rfl ?_|refine zE rfl rfl ?_|refine zC rfl rfl ?_|refine yA rfl rfl ?_|refine zF rfl rfl ?_|refine zH rfl rfl ?_|refine zU rfl rfl rfl ?_|refine xF rfl rfl ?_|refine zX rfl (fun r => ?_)|refine zO rfl (c) rfl ?_)|refine yN rfl rfl rfl ?_|refine JL_passN rfl rfl rfl ?_))
          exact zS rfl rfl .nil
        | true =>
          rw [hb] at c hpi
          replace hb := hpi
          repeat (first|(first|refine zB ?_|refine zD ?_|refine zG ?_|refine zI ?_|refine zP ?_|refine zL rfl ?_|refine zK rfl ?_)|(first|((first|refine zA rfl ?_|refine zV rfl rfl ?_);first|refine JOq (yF rfl rfl (by omega)) rfl ?_|refine xM rfl rfl hil rfl ?_|refine JOq (wC [.bool true,.int .i64 e1,.int .i64 e2] rfl (fun u z hu => xJ (b := q1) (o := o1) (n := params.length) (cap := kp) (j := i) hil (by rw [xA prmC_len _ _ _ _ (by have := (List.getElem?_eq_some_iff.1 hu).1;exact this) hx];exact hu)) rfl) rfl ?_|refine zT rfl rfl (by rfl) (by rfl) (by simp [Value.oneCell']) rfl ?_|refine xI rfl (by simp) rfl ?_|refine xD (b := 1) rfl rfl (by omega) rfl ?_|refine zE rfl rfl ?_|refine zC rfl rfl ?_|refine yA rfl rfl ?_|refine zF rfl rfl ?_|refine zH rfl rfl ?_|refine zU rfl rfl rfl ?_|refine zY rfl rfl rfl ?_|refine xF rfl rfl ?_|refine zX rfl (fun r => ?_)|refine zO rfl (c) rfl ?_)|refine yN rfl rfl rfl ?_))
          exact ⟨⟨i + 1,by omega,take_good hx hg hb⟩,by simp only;omega,by (repeat (first|exact zN _|refine zJ rfl ?_)),rfl,Ent.sel⟩
      | false =>
        rw [if_neg (by simp)] at hpi
        by_cases he : e1 = 0 ∧ e2 = 0
        · obtain ⟨rfl,rfl⟩ := he
          have hb : (prmO ⟨false,(0,0)⟩).isSome = true := hpi
          repeat (first|(first|refine zB ?_|refine zD ?_|refine zG ?_|refine zI ?_|refine zP ?_|refine zL rfl ?_|refine zK rfl ?_)|(first|((first|refine zA rfl ?_|refine zV rfl rfl ?_);first|refine JOq (JQ_neAgg (r := true) rfl rfl (eq_iiS 0 0 9998)) rfl ?_|refine JOq (yF rfl rfl (by omega)) rfl ?_|refine xM rfl rfl hil rfl ?_|refine JOq (wC [.bool false,.int .i64 0,.int .i64 0] rfl (fun u z hu => xJ (b := q1) (o := o1) (n := params.length) (cap := kp) (j := i) hil (by rw [xA prmC_len _ _ _ _ (by have := (List.getElem?_eq_some_iff.1 hu).1;exact this) hx];exact hu)) rfl) rfl ?_|refine zT rfl rfl (by rfl) (by rfl) (by simp [Value.oneCell']) rfl ?_|refine xI rfl (by simp) rfl ?_|refine yI (cs := yG (0,0)) rfl rfl rfl ?_|refine xD (b := 1) rfl rfl (by omega) rfl ?_|refine zE rfl rfl ?_|refine zC rfl rfl ?_|refine yA rfl rfl ?_|refine zF rfl rfl ?_|refine zH rfl rfl ?_|refine zU rfl rfl rfl ?_|refine zY rfl rfl rfl ?_|refine xF rfl rfl ?_|refine zX rfl (fun r => ?_))|refine yN rfl rfl rfl ?_))
          exact ⟨⟨i + 1,by omega,take_good hx hg hb⟩,by simp only;omega,by (repeat (first|exact zN _|refine zJ rfl ?_)),rfl,Ent.sel⟩
        · obtain rfl := hno1 _ hxm (hpi.trans (by simp only [Bool.and_eq_false_iff,beq_eq_false_iff_ne];by_cases h1 : e1 = 0;exact .inr fun h2 => he ⟨h1,h2⟩;exact .inl h1))
          repeat (first|(first|refine zB ?_|refine zD ?_|refine zG ?_|refine zI ?_|refine zP ?_|refine zL rfl ?_|refine zR ?_)|(first|((first|refine zA rfl ?_|refine zV rfl rfl ?_);first|refine JOq (JQ_neAgg (r := false) rfl rfl (eq_iiF he 9998)) rfl ?_|refine JOq (yF rfl rfl (by omega)) rfl ?_|refine xM rfl rfl hil rfl ?_|refine JOq (wC [.bool false,.int .i64 e1,.int .i64 e2] rfl (fun u z hu => xJ (b := q1) (o := o1) (n := params.length) (cap := kp) (j := i) hil (by rw [xA prmC_len _ _ _ _ (by have := (List.getElem?_eq_some_iff.1 hu).1;exact this) hx];exact hu)) rfl) rfl ?_|refine zT rfl rfl (by rfl) (by rfl) (by simp [Value.oneCell']) rfl ?_|refine xI rfl (by simp) rfl ?_|refine yI (cs := yG (0,0)) rfl rfl rfl ?_|refine zE rfl rfl ?_|refine zC rfl rfl ?_|refine yA rfl rfl ?_|refine zF rfl rfl ?_|refine zH rfl rfl ?_|refine zU rfl rfl rfl ?_|refine zY rfl rfl rfl ?_|refine xF rfl rfl ?_|refine zX rfl (fun r => ?_))|refine yN rfl rfl rfl ?_))
          exact zS rfl rfl .nil
    · obtain rfl : i = params.length := by omega
      rw [List.take_length] at hg
      repeat (first|(first|refine zB ?_|refine zD ?_|refine zG ?_|refine zK rfl ?_|refine xN ?_)|(first|((first|refine zA rfl ?_);first|refine JOq (yO rfl rfl (by omega)) rfl ?_|refine zE rfl rfl ?_|refine yA rfl rfl ?_|refine zF rfl rfl ?_|refine zH rfl rfl ?_)))
      exact ⟨⟨(),hg⟩,by (repeat (first|exact zN _|refine zJ rfl ?_)),rfl,Ent.sel⟩
  rintro ⟨⟨⟩,hg1⟩
  dsimp only [thn]
  repeat (first|(first|refine zB ?_|refine zD ?_|refine zG ?_)|(first|((first|refine zA rfl ?_);first|refine zC rfl rfl ?_)))
  refine tM (α := { _u : Unit // ∀ x ∈ code,(insO x).isSome = true }) (fun _ => [(1,ptr n1)]) (fun _ => [pt n1 (.cells [slc (pp,kp) params.length,slc (pc,kc) code.length,slc (pw,kw) wt.length].toArray 50 (0,0)),Vw 3 (slc (pp,kp) params.length) params.length (params.flatMap prmC),Vw 6 (slc (pc,kc) code.length) code.length (code.flatMap vL),zZ tB code]) ?_ ?_
  · repeat (first|(first|refine zI ?_)|(first|((first|refine zA rfl ?_);first|refine zE rfl rfl ?_)))
    refine xY (β := { i : Nat // i ≤ code.length ∧ ∀ x ∈ code.take i,(insO x).isSome = true }) (fun i => [(1,ptr n1),(5,.int .i64 (i.1 : Int))]) (fun _ => []) (fun _ => [pt n1 (.cells [slc (pp,kp) params.length,slc (pc,kc) code.length,slc (pw,kw) wt.length].toArray 50 (0,0)),Vw 3 (slc (pp,kp) params.length) params.length (params.flatMap prmC),Vw 6 (slc (pc,kc) code.length) code.length (code.flatMap vL),zZ tB code]) (fun i => code.length - i.1) ⟨0,by omega,by simp⟩ ?_ rfl Ent.sel ?_
    · (repeat (first|exact zN _|refine zJ rfl ?_))
    rintro ⟨i,hi,hg⟩
    dsimp only
    by_cases hil : i < code.length
    · obtain ⟨x,hx⟩ : ∃ x,code[i]? = some x := ⟨_,List.getElem?_eq_getElem hil⟩
      have hxm := List.mem_of_getElem? hx
      refine wS (φ := ∃ b o,pc = some ⟨b,o,none⟩) (fun F w hs => (Ent.sel (K := [Vw 6 (slc (pc,kc) code.length) code.length (code.flatMap vL)]) F w hs).tail.out (fun k hk => wN (by omega) k hk)) (fun hp => ?_)
      obtain ⟨q2,o2,rfl⟩ := hp
      obtain ⟨x,⟨py,ky⟩⟩ := x
      have hpi := ins_is (x,py,ky)
      dsimp only at hpi
      refine J_all tB code (x,py,ky) pers_insR hxm ?_
      refine vH (tB (x,py,ky)) ?_
      refine wS (φ := x.l.length ≤ ky ∧ x.l.length ≤ 1000 ∧ -9223372036854775808 ≤ x.a ∧ x.a ≤ 9223372036854775807) (fun F w hs => hs.tail.out (fun k hk => hk.1)) (fun hr => ?_)
      refine wJ (insR_row (x,py,ky)) ?_
      have c := dcheck_c x py ky hr.1 (by omega)
      by_cases h0 : chkA x = 0
      · rw [h0] at c
        have hb : (insO (x,py,ky)).isSome = true := hpi.trans (by rw [h0];rfl)
        repeat (first|(first|refine zB ?_|refine zD ?_|refine zG ?_|refine zI ?_|refine zP ?_|refine zL rfl ?_|refine zK rfl ?_)|(first|((first|refine zA rfl ?_);first|refine JOq (yF rfl rfl (by omega)) rfl ?_|refine JOq (JQ_neF rfl rfl (by omega)) rfl ?_|refine xM rfl rfl hil rfl ?_|refine JOq (wC (vL (x,py,ky)) rfl (fun u z hu => xJ (b := q2) (o := o2) (n := code.length) (cap := kc) (j := i) hil (by rw [xA insC_len _ _ _ _ (by have := (List.getElem?_eq_some_iff.1 hu).1;exact this) hx];exact hu)) rfl) rfl ?_|refine xD (b := 1) rfl rfl (by omega) rfl ?_|refine zE rfl rfl ?_|refine zC rfl rfl ?_|refine yA rfl rfl ?_|refine zF rfl rfl ?_|refine zH rfl rfl ?_|refine zO rfl (c) rfl ?_)))
        exact ⟨⟨i + 1,by omega,take_good hx hg hb⟩,by simp only;omega,by (repeat (first|exact zN _|refine zJ rfl ?_)),rfl,Ent.sel⟩
      · obtain rfl := hno2 _ hxm (hpi.trans (by simp [h0]))
        repeat (first|(first|refine zB ?_|refine zD ?_|refine zG ?_|refine zI ?_|refine zP ?_|refine zL rfl ?_|refine zR ?_)|(first|((first|refine zA rfl ?_);first|refine JOq (yF rfl rfl (by omega)) rfl ?_|refine JOq (tI rfl rfl (by omega)) rfl ?_|refine xM rfl rfl hil rfl ?_|refine JOq (wC (vL (x,py,ky)) rfl (fun u z hu => xJ (b := q2) (o := o2) (n := code.length) (cap := kc) (j := i) hil (by rw [xA insC_len _ _ _ _ (by have := (List.getElem?_eq_some_iff.1 hu).1;exact this) hx];exact hu)) rfl) rfl ?_|refine zE rfl rfl ?_|refine zC rfl rfl ?_|refine yA rfl rfl ?_|refine zF rfl rfl ?_|refine zH rfl rfl ?_|refine zO rfl (c) rfl ?_)))
        exact zS rfl rfl .nil
    · obtain rfl : i = code.length := by omega
      rw [List.take_length] at hg
      repeat (first|(first|refine zB ?_|refine zD ?_|refine zG ?_|refine zK rfl ?_|refine xN ?_)|(first|((first|refine zA rfl ?_);first|refine JOq (yO rfl rfl (by omega)) rfl ?_|refine zE rfl rfl ?_|refine yA rfl rfl ?_|refine zF rfl rfl ?_|refine zH rfl rfl ?_)))
      exact ⟨⟨(),hg⟩,by (repeat (first|exact zN _|refine zJ rfl ?_)),rfl,Ent.sel⟩
  rintro ⟨⟨⟩,hg2⟩
  dsimp only [thn]
  obtain rfl := hok hg1 hg2
  obtain ⟨N,hN⟩ : ∃ N : Int,N = params.length := ⟨_,rfl⟩
  obtain ⟨K,hK⟩ : ∃ N : Int,N = code.length := ⟨_,rfl⟩
  have hN0 : 0 ≤ N := by omega
  by_cases g1 : (params.length : Int) ≤ 8
  · by_cases g2 : (1 : Int) ≤ (code.length : Int)
    · by_cases g3 : (code.length : Int) ≤ 128
      · skip
        rw [show ((decide ((0 : Int) ≤ (params.length : Int)) && decide ((params.length : Int) ≤ 8)) && (decide ((1 : Int) ≤ (code.length : Int)) && decide ((code.length : Int) ≤ 128))) = true by simp only [decide_eq_true g1,decide_eq_true g2,decide_eq_true g3];simp]
        repeat (first|(first|refine zB ?_|refine zD ?_|refine zG ?_|refine zR ?_)|(first|((first|refine zA rfl ?_|refine zV rfl rfl ?_);first|refine JOq (JQ_leqT rfl rfl (by omega)) rfl ?_|refine JOq (JQ_geqT rfl rfl (by omega)) rfl ?_|refine zE rfl rfl ?_|refine zC rfl rfl ?_|refine yA rfl rfl ?_|refine zF rfl rfl ?_|refine zH rfl rfl ?_|refine zU rfl rfl rfl ?_)))
        exact zS rfl rfl .nil
      · skip
        rw [show ((decide ((0 : Int) ≤ (params.length : Int)) && decide ((params.length : Int) ≤ 8)) && (decide ((1 : Int) ≤ (code.length : Int)) && decide ((code.length : Int) ≤ 128))) = false by simp only [decide_eq_true g1,decide_eq_true g2,decide_eq_false g3];simp]
        repeat (first|(first|refine zB ?_|refine zD ?_|refine zG ?_|refine zR ?_)|(first|((first|refine zA rfl ?_|refine zV rfl rfl ?_);first|refine JOq (JQ_leqT rfl rfl (by omega)) rfl ?_|refine JOq (JQ_leqF rfl rfl (by omega)) rfl ?_|refine JOq (JQ_geqT rfl rfl (by omega)) rfl ?_|refine zE rfl rfl ?_|refine zC rfl rfl ?_|refine yA rfl rfl ?_|refine zF rfl rfl ?_|refine zH rfl rfl ?_|refine zU rfl rfl rfl ?_)))
        exact zS rfl rfl .nil
    · skip
      rw [show ((decide ((0 : Int) ≤ (params.length : Int)) && decide ((params.length : Int) ≤ 8)) && (decide ((1 : Int) ≤ (code.length : Int)) && decide ((code.length : Int) ≤ 128))) = false by simp only [decide_eq_true g1,decide_eq_false g2];simp]
      repeat (first|(first|refine zB ?_|refine zD ?_|refine zG ?_|refine zR ?_)|(first|((first|refine zA rfl ?_|refine zV rfl rfl ?_);first|refine JOq (JQ_leqT rfl rfl (by omega)) rfl ?_|refine JOq (JQ_geqF rfl rfl (by omega)) rfl ?_|refine zE rfl rfl ?_|refine zC rfl rfl ?_|refine yA rfl rfl ?_|refine zF rfl rfl ?_|refine zH rfl rfl ?_|refine zU rfl rfl rfl ?_|refine zY rfl rfl rfl ?_)|refine yN rfl rfl rfl ?_))
      exact zS rfl rfl .nil
  · skip
    rw [show ((decide ((0 : Int) ≤ (params.length : Int)) && decide ((params.length : Int) ≤ 8)) && (decide ((1 : Int) ≤ (code.length : Int)) && decide ((code.length : Int) ≤ 128))) = false by simp only [decide_eq_false g1];simp]
    repeat (first|(first|refine zB ?_|refine zD ?_|refine zG ?_|refine zR ?_)|(first|((first|refine zA rfl ?_);first|refine JOq (JQ_leqF rfl rfl (by omega)) rfl ?_|refine zE rfl rfl ?_|refine zC rfl rfl ?_|refine yA rfl rfl ?_|refine zF rfl rfl ?_|refine zH rfl rfl ?_|refine zY rfl rfl rfl ?_)|refine yN rfl rfl rfl ?_))
    exact zS rfl rfl .nil
set_option maxHeartbeats 4000000 in
theorem dstart_c (s : Sta) (hb1 : s.args.length ≤ 100000) : Ct Tryz.prog 67 #[.agg (vE s).toArray] [StaR s] (wZ (.bool (staO s).isSome) []) := by
  have hno1 : ∀ p ∈ s.args,(arO p).isSome = false → (staO s).isSome = false := fun _ => sta_no
  have hok : (∀ p ∈ s.args,(arO p).isSome = true) → (staO s).isSome = ((xT s.tm 15).isSome && (decide ((0 : Int) ≤ (s.args.length : Int)) && decide ((s.args.length : Int) ≤ 8))) := fun h1 => by rw [sta_is,listO_is h1]
  obtain ⟨v,hv⟩ : ∃ v,v = (staO s).isSome := ⟨_,rfl⟩
  rw [← hv] at hno1 hok ⊢
  clear hv
  obtain ⟨tm,args,⟨pa,ka⟩⟩ := s
  dsimp only at hb1 hno1 hok
  refine yE (vs := [.agg [.int .i64 tm,slc (pa,ka) args.length].toArray]) Tryz.func67 rfl Tryz.ntmps67 (by simp) ?_
  repeat (first|(first|refine zB ?_|refine zD ?_|refine zG ?_)|(first|((first|refine zA rfl ?_);first|refine zC rfl rfl ?_|refine yB rfl rfl (fun r => ?_))))
  revert r
  intro n1
  refine tM (α := { _u : Unit // ∀ x ∈ args,(arO x).isSome = true }) (fun _ => [(1,ptr n1)]) (fun _ => [pt n1 (.cells [.int .i64 tm,slc (pa,ka) args.length].toArray 67 (0,0)),Vw 3 (slc (pa,ka) args.length) args.length (args.flatMap arC)]) ?_ ?_
  · repeat (first|(first|refine zI ?_)|(first|((first|refine zA rfl ?_);first|refine zE rfl rfl ?_)))
    refine xY (β := { i : Nat // i ≤ args.length ∧ ∀ x ∈ args.take i,(arO x).isSome = true }) (fun i => [(1,ptr n1),(3,.int .i64 (i.1 : Int))]) (fun _ => []) (fun _ => [pt n1 (.cells [.int .i64 tm,slc (pa,ka) args.length].toArray 67 (0,0)),Vw 3 (slc (pa,ka) args.length) args.length (args.flatMap arC)]) (fun i => args.length - i.1) ⟨0,by omega,by simp⟩ ?_ rfl Ent.sel ?_
    · (repeat (first|exact zN _|refine zJ rfl ?_))
    rintro ⟨i,hi,hg⟩
    dsimp only
    by_cases hil : i < args.length
    · obtain ⟨x,hx⟩ : ∃ x,args[i]? = some x := ⟨_,List.getElem?_eq_getElem hil⟩
      have hxm := List.mem_of_getElem? hx
      refine wS (φ := ∃ b o,pa = some ⟨b,o,none⟩) (fun F w hs => (Ent.sel (K := [Vw 3 (slc (pa,ka) args.length) args.length (args.flatMap arC)]) F w hs).tail.out (fun k hk => wN (by omega) k hk)) (fun hp => ?_)
      obtain ⟨q1,o1,rfl⟩ := hp
      obtain ⟨ch,wd,en⟩ := x
      have hpi := ar_is ⟨ch,wd,en⟩
      dsimp only at hpi
      cases ch with
      | true =>
        have c := din_c en 31
        rw [if_pos rfl] at hpi
        by_cases hw : wd = 0
        · cases hb : (xT en 31).isSome with
          | false =>
            rw [hb] at c hpi
            obtain rfl := hno1 _ hxm (hpi.trans (by simp))
            repeat (first|(first|refine zB ?_|refine zD ?_|refine zG ?_|refine zI ?_|refine zP ?_|refine zL rfl ?_|refine zR ?_)|(first|((first|refine zA rfl ?_|refine zV rfl rfl ?_);first|refine JOq (yF rfl rfl (by omega)) rfl ?_|refine JOq (JQ_neF rfl rfl (by omega)) rfl ?_|refine xM rfl rfl hil rfl ?_|refine JOq (wC [.bool true,.int .i64 wd,.int .i64 en] rfl (fun u z hu => xJ (b := q1) (o := o1) (n := args.length) (cap := ka) (j := i) hil (by rw [xA arC_len _ _ _ _ (by have := (List.getElem?_eq_some_iff.1 hu).1;exact this) hx];exact hu)) rfl) rfl ?_|refine zT rfl rfl (by rfl) (by rfl) (by simp [Value.oneCell']) rfl ?_|refine zE rfl rfl ?_|refine zC rfl rfl ?_|refine yA rfl rfl ?_|refine zF rfl rfl ?_|refine zH rfl rfl ?_|refine zU rfl rfl rfl ?_|refine zY rfl rfl rfl ?_|refine xF rfl rfl ?_|refine zX rfl (fun r => ?_)|refine zO rfl (c) rfl ?_)|refine yN rfl rfl rfl ?_|refine JL_passN rfl rfl rfl ?_))
            exact zS rfl rfl .nil
          | true =>
            rw [hb] at c hpi
            replace hb := hpi.trans (by simp [hw] : _ = true)
            repeat (first|(first|refine zB ?_|refine zD ?_|refine zG ?_|refine zI ?_|refine zP ?_|refine zL rfl ?_|refine zK rfl ?_)|(first|((first|refine zA rfl ?_|refine zV rfl rfl ?_);first|refine JOq (yF rfl rfl (by omega)) rfl ?_|refine JOq (JQ_neF rfl rfl (by omega)) rfl ?_|refine xM rfl rfl hil rfl ?_|refine JOq (wC [.bool true,.int .i64 wd,.int .i64 en] rfl (fun u z hu => xJ (b := q1) (o := o1) (n := args.length) (cap := ka) (j := i) hil (by rw [xA arC_len _ _ _ _ (by have := (List.getElem?_eq_some_iff.1 hu).1;exact this) hx];exact hu)) rfl) rfl ?_|refine zT rfl rfl (by rfl) (by rfl) (by simp [Value.oneCell']) rfl ?_|refine xD (b := 1) rfl rfl (by omega) rfl ?_|refine zE rfl rfl ?_|refine zC rfl rfl ?_|refine yA rfl rfl ?_|refine zF rfl rfl ?_|refine zH rfl rfl ?_|refine zU rfl rfl rfl ?_|refine zY rfl rfl rfl ?_|refine xF rfl rfl ?_|refine zX rfl (fun r => ?_)|refine zO rfl (c) rfl ?_)|refine yN rfl rfl rfl ?_))
            exact ⟨⟨i + 1,by omega,take_good hx hg hb⟩,by simp only;omega,by (repeat (first|exact zN _|refine zJ rfl ?_)),rfl,Ent.sel⟩
        · obtain rfl := hno1 _ hxm (hpi.trans (by simp [hw]))
          repeat (first|(first|refine zB ?_|refine zD ?_|refine zG ?_|refine zI ?_|refine zP ?_|refine zL rfl ?_|refine zR ?_)|(first|((first|refine zA rfl ?_|refine zV rfl rfl ?_);first|refine JOq (yF rfl rfl (by omega)) rfl ?_|refine JOq (tI rfl rfl (by omega)) rfl ?_|refine xM rfl rfl hil rfl ?_|refine JOq (wC [.bool true,.int .i64 wd,.int .i64 en] rfl (fun u z hu => xJ (b := q1) (o := o1) (n := args.length) (cap := ka) (j := i) hil (by rw [xA arC_len _ _ _ _ (by have := (List.getElem?_eq_some_iff.1 hu).1;exact this) hx];exact hu)) rfl) rfl ?_|refine zT rfl rfl (by rfl) (by rfl) (by simp [Value.oneCell']) rfl ?_|refine zE rfl rfl ?_|refine zC rfl rfl ?_|refine yA rfl rfl ?_|refine zF rfl rfl ?_|refine zH rfl rfl ?_|refine zU rfl rfl rfl ?_|refine zX rfl (fun r => ?_))|refine yN rfl rfl rfl ?_|refine JL_passN rfl rfl rfl ?_))
          exact zS rfl rfl .nil
      | false =>
        rw [if_neg (by simp)] at hpi
        by_cases he : en = 0
        · have hb := hpi.trans (by simp [he] : _ = true)
          repeat (first|(first|refine zB ?_|refine zD ?_|refine zG ?_|refine zI ?_|refine zP ?_|refine zL rfl ?_|refine zK rfl ?_)|(first|((first|refine zA rfl ?_|refine zV rfl rfl ?_);first|refine JOq (yF rfl rfl (by omega)) rfl ?_|refine JOq (JQ_neF rfl rfl (by omega)) rfl ?_|refine xM rfl rfl hil rfl ?_|refine JOq (wC [.bool false,.int .i64 wd,.int .i64 en] rfl (fun u z hu => xJ (b := q1) (o := o1) (n := args.length) (cap := ka) (j := i) hil (by rw [xA arC_len _ _ _ _ (by have := (List.getElem?_eq_some_iff.1 hu).1;exact this) hx];exact hu)) rfl) rfl ?_|refine zT rfl rfl (by rfl) (by rfl) (by simp [Value.oneCell']) rfl ?_|refine xD (b := 1) rfl rfl (by omega) rfl ?_|refine zE rfl rfl ?_|refine zC rfl rfl ?_|refine yA rfl rfl ?_|refine zF rfl rfl ?_|refine zH rfl rfl ?_|refine zU rfl rfl rfl ?_|refine zY rfl rfl rfl ?_|refine xF rfl rfl ?_|refine zX rfl (fun r => ?_))|refine yN rfl rfl rfl ?_|refine JL_passN rfl rfl rfl ?_))
          exact ⟨⟨i + 1,by omega,take_good hx hg hb⟩,by simp only;omega,by (repeat (first|exact zN _|refine zJ rfl ?_)),rfl,Ent.sel⟩
        · obtain rfl := hno1 _ hxm (hpi.trans (by simp [he]))
          repeat (first|(first|refine zB ?_|refine zD ?_|refine zG ?_|refine zI ?_|refine zP ?_|refine zL rfl ?_|refine zR ?_)|(first|((first|refine zA rfl ?_|refine zV rfl rfl ?_);first|refine JOq (yF rfl rfl (by omega)) rfl ?_|refine JOq (tI rfl rfl (by omega)) rfl ?_|refine xM rfl rfl hil rfl ?_|refine JOq (wC [.bool false,.int .i64 wd,.int .i64 en] rfl (fun u z hu => xJ (b := q1) (o := o1) (n := args.length) (cap := ka) (j := i) hil (by rw [xA arC_len _ _ _ _ (by have := (List.getElem?_eq_some_iff.1 hu).1;exact this) hx];exact hu)) rfl) rfl ?_|refine zT rfl rfl (by rfl) (by rfl) (by simp [Value.oneCell']) rfl ?_|refine zE rfl rfl ?_|refine zC rfl rfl ?_|refine yA rfl rfl ?_|refine zF rfl rfl ?_|refine zH rfl rfl ?_|refine zU rfl rfl rfl ?_|refine zY rfl rfl rfl ?_|refine xF rfl rfl ?_|refine zX rfl (fun r => ?_))|refine yN rfl rfl rfl ?_|refine JL_passN rfl rfl rfl ?_))
          exact zS rfl rfl .nil
    · obtain rfl : i = args.length := by omega
      rw [List.take_length] at hg
      repeat (first|(first|refine zB ?_|refine zD ?_|refine zG ?_|refine zK rfl ?_|refine xN ?_)|(first|((first|refine zA rfl ?_);first|refine JOq (yO rfl rfl (by omega)) rfl ?_|refine zE rfl rfl ?_|refine yA rfl rfl ?_|refine zF rfl rfl ?_|refine zH rfl rfl ?_)))
      exact ⟨⟨(),hg⟩,by (repeat (first|exact zN _|refine zJ rfl ?_)),rfl,Ent.sel⟩
  rintro ⟨⟨⟩,hg1⟩
  dsimp only [thn]
  obtain rfl := hok hg1
  have ci := din_c tm 15
  have hlow : (0 : Int) ≤ (args.length : Int) := by omega
  cases hb : (xT tm 15).isSome with
  | false =>
    rw [hb] at ci
    rw [Bool.false_and]
    repeat (first|(first|refine zB ?_|refine zD ?_|refine zG ?_|refine zR ?_)|(first|((first|refine zA rfl ?_);first|refine zE rfl rfl ?_|refine zC rfl rfl ?_|refine zF rfl rfl ?_|refine zH rfl rfl ?_|refine zY rfl rfl rfl ?_|refine zO rfl (ci) rfl ?_)|refine yN rfl rfl rfl ?_))
    exact zS rfl rfl .nil
  | true =>
    rw [hb] at ci
    by_cases g1 : (args.length : Int) ≤ 8
    · rw [decide_eq_true g1,decide_eq_true hlow]
      repeat (first|(first|refine zB ?_|refine zD ?_|refine zG ?_|refine zR ?_)|(first|((first|refine zA rfl ?_|refine zV rfl rfl ?_);first|refine JOq (JQ_leqT rfl rfl (by omega)) rfl ?_|refine zE rfl rfl ?_|refine zC rfl rfl ?_|refine yA rfl rfl ?_|refine zF rfl rfl ?_|refine zH rfl rfl ?_|refine zU rfl rfl rfl ?_|refine zO rfl (ci) rfl ?_)))
      exact zS rfl rfl .nil
    · rw [decide_eq_false g1,decide_eq_true hlow]
      repeat (first|(first|refine zB ?_|refine zD ?_|refine zG ?_|refine zR ?_)|(first|((first|refine zA rfl ?_|refine zV rfl rfl ?_);first|refine JOq (JQ_leqF rfl rfl (by omega)) rfl ?_|refine zE rfl rfl ?_|refine zC rfl rfl ?_|refine yA rfl rfl ?_|refine zF rfl rfl ?_|refine zH rfl rfl ?_|refine zU rfl rfl rfl ?_|refine zO rfl (ci) rfl ?_)))
      exact zS rfl rfl .nil
end Go.Proofs.YtickblndgihoeaaGreatDoor

/- Layer 11: the document's May,layNode. -/
namespace Go.Proofs.YtickblndgihoeaaGreatDoor
open Go Go.Sp
section
variable {P : Program} {N : Nat} {E : Env} {D : List Deferred} {L : List HP}
variable {d : Option Nat} {ty : TypeId} {pos : String} {after : Array Edge} {g : Option (Nat × Bool)}
theorem vS {x y : Operand} {t u : TypeId} {a b r : List UInt8} (h : a ++ b = r) (hx : ev E x = some (str a)) (hy : ev E y = some (str b)) (hb : a.length + b.length ≤ 9223372036854775807) : JQ P N ⟨d,.binOp .add t x y u,ty,pos,after,g⟩ E D L (str r) := h ▸ vG hx hy hb
end
theorem pay_get {k p c e1 e2 s : Value} {i : Nat} {u : Value} (hu : ([e1,e2] : List Value)[i]? = some u) : ([k,p,c,e1,e2,s] : List Value)[3 + i]? = some u := by
  rcases i with _ | _ | i
  · exact hu
  · exact hu
  · simp at hu
theorem staR_of {s : Sta} {L : List HP} : Ent (tK s :: L) (StaR s :: L) := ent_turn fun _ h => h.2
theorem list_no {α : Type} {least most : Int} {o : α → OB} {l : List α} {x : α} (hx : x ∈ l) (h : (o x).isSome = false) : (xX least most o l).isSome = false := by rw [listO_no hx (isSome_f h)];rfl
theorem list_fits {α : Type} {most : Int} {o : α → OB} {l : List α} (h : ∀ x ∈ l,(o x).isSome = true) : (xX 0 most o l).isSome = decide ((l.length : Int) ≤ most) := by
  rw [listO_is h,decide_eq_true (show (0 : Int) ≤ (l.length : Int) by omega),Bool.true_and]
noncomputable def mayB (m : Mdl) : Bool := (sec1O m).isSome && ((sec2O m).isSome && (sec3O m).isSome)
theorem may_1 {m : Mdl} {x : Nod} (hx : x ∈ m.nodes) (h : (xS x).isSome = false) : mayB m = false := by
  unfold mayB;rw [show (sec1O m).isSome = false from list_no hx h];rfl
theorem may_2 {m : Mdl} {x : Tem} (hx : x ∈ m.temps) (h : (temO x).isSome = false) : mayB m = false := by
  unfold mayB;rw [show (sec2O m).isSome = false from list_no hx h];simp
theorem may_3 {m : Mdl} {x : Int × Int} (hx : x ∈ m.chans) (h : (xB x).isSome = false) : mayB m = false := by
  unfold mayB
  rw [show (sec3O m).isSome = false from (wU _ _).trans (by rw [list_no hx h];rfl)];simp
theorem may_4 {m : Mdl} {x : Sta} (hx : x ∈ m.starts) (h : (staO x).isSome = false) : mayB m = false := by
  unfold mayB
  rw [show (sec3O m).isSome = false from (wU _ _).trans (by rw [list_no (l := m.starts) hx h];simp)];simp
theorem may_ok {m : Mdl} (h1 : ∀ x ∈ m.nodes,(xS x).isSome = true) (h2 : ∀ x ∈ m.temps,(temO x).isSome = true) (h3 : ∀ x ∈ m.chans,(xB x).isSome = true) (h4 : ∀ x ∈ m.starts,(staO x).isSome = true) :
    mayB m = (decide ((m.nodes.length : Int) ≤ 64) && (decide ((m.temps.length : Int) ≤ 16) && (decide ((m.chans.length : Int) ≤ 16) && decide ((m.starts.length : Int) ≤ 8)))) := by
  unfold mayB
  rw [show (sec1O m).isSome = _ from list_fits h1,show (sec2O m).isSome = _ from list_fits h2,show (sec3O m).isSome = _ from wU _ _,list_fits h3,list_fits h4]
theorem lay_nodeK {n : Nod} {b : List UInt8} (h : xS n = some b) :
    (n.kind = 0 ∧ n.next = [] ∧ b = wF 0) ∨ (n.kind = 5 ∧ ∃ tl,vR xB n.next = some tl ∧ b = wF 5 ++ tl) ∨
    ((n.kind = 1 ∨ n.kind = 2) ∧ (0 ≤ n.prio ∧ n.prio ≤ 1000) ∧ ∃ tl,vR xB n.next = some tl ∧ ((n.ch = true ∧ ∃ pb,xB n.pay = some pb ∧ b = (((wF n.kind ++ wF n.prio) ++ wF 1) ++ pb) ++ tl) ∨ (n.ch = false ∧ b = ((wF n.kind ++ wF n.prio) ++ wF 0) ++ tl))) ∨
    ((n.kind = 3 ∨ n.kind = 4) ∧ (0 ≤ n.prio ∧ n.prio ≤ 1000) ∧ ∃ tl,vR xB n.next = some tl ∧ b = ((wF n.kind ++ wF n.prio) ++ wF (n.next.length : Int)) ++ tl) := by
  have one : ∀ {l : List (Int × Int)} {r : List UInt8},oneO l = some r → vR xB l = some r := fun {l r} h => by
    rcases l with _ | ⟨e,_ | ⟨e',l⟩⟩
    · cases h
    · show yY (xB e) (some []) = some r
      rw [show xB e = some r from h,catO_some,List.append_nil]
    · cases h
  have e1 : wF 1 = [1] := by unfold wF;rw [show (1 : Int).toNat = 1 from rfl,encU_lt (by decide)];rfl
  have e0 : wF 0 = [0] := by unfold wF;rw [show (0 : Int).toNat = 0 from rfl,encU_lt (by decide)];rfl
  unfold xS at h
  split at h
  · rename_i hk
    obtain ⟨a,_,h1,j1,rfl⟩ := wO.1 h
    obtain ⟨_,_,h2,j2,rfl⟩ := wO.1 j1
    obtain ⟨_,_,h3,j3,rfl⟩ := wO.1 j2
    obtain ⟨_,_,h4,h5,rfl⟩ := wO.1 j3
    obtain ⟨_,rfl⟩ := mustO_iff.1 h2
    obtain ⟨_,rfl⟩ := mustO_iff.1 h3
    obtain ⟨_,rfl⟩ := mustO_iff.1 h4
    obtain ⟨hl,rfl⟩ := mustO_iff.1 h5
    have hl := of_decide_eq_true hl
    exact .inl ⟨hk,List.length_eq_zero_iff.1 (by omega),by rw [(numO_eq h1).2.2];simp⟩
  split at h
  · rename_i hk
    obtain ⟨a,_,h1,j1,rfl⟩ := wO.1 h
    obtain ⟨_,_,h2,j2,rfl⟩ := wO.1 j1
    obtain ⟨_,_,h3,j3,rfl⟩ := wO.1 j2
    obtain ⟨_,tl,h4,h5,rfl⟩ := wO.1 j3
    obtain ⟨_,rfl⟩ := mustO_iff.1 h2
    obtain ⟨_,rfl⟩ := mustO_iff.1 h3
    obtain ⟨_,rfl⟩ := mustO_iff.1 h4
    exact .inr (.inl ⟨hk,tl,one h5,by rw [(numO_eq h1).2.2];simp⟩)
  split at h
  · rename_i hk
    obtain ⟨a,_,h1,j1,rfl⟩ := wO.1 h
    obtain ⟨_,_,h2,j2,rfl⟩ := wO.1 j1
    obtain ⟨c,_,h3,j3,rfl⟩ := wO.1 j2
    obtain ⟨f,_,h4,j4,rfl⟩ := wO.1 j3
    obtain ⟨pb,tl,h5,h6,rfl⟩ := wO.1 j4
    obtain ⟨_,rfl⟩ := mustO_iff.1 h2
    have g1 := numO_eq h1
    have g3 := numO_eq h3
    refine .inr (.inr (.inl ⟨hk,⟨g3.1,g3.2.1⟩,tl,one h6,?_⟩))
    rw [g1.2.2,g3.2.2]
    cases hc : n.ch with
    | true =>
      rw [hc] at h4 h5
      cases h4
      exact .inl ⟨rfl,pb,h5,by rw [e1];simp⟩
    | false =>
      rw [hc] at h4 h5
      cases h4
      cases h5
      exact .inr ⟨rfl,by rw [e0];simp⟩
  split at h
  · rename_i hk
    obtain ⟨a,_,h1,j1,rfl⟩ := wO.1 h
    obtain ⟨_,_,h2,j2,rfl⟩ := wO.1 j1
    obtain ⟨c,_,h3,j3,rfl⟩ := wO.1 j2
    obtain ⟨_,_,h4,h5,rfl⟩ := wO.1 j3
    obtain ⟨_,rfl⟩ := mustO_iff.1 h2
    obtain ⟨_,rfl⟩ := mustO_iff.1 h4
    obtain ⟨_,_,l,tl,h6,h7,rfl⟩ := listO_mem h5
    have g1 := numO_eq h1
    have g3 := numO_eq h3
    have g6 := numO_eq h6
    exact .inr (.inr (.inr ⟨hk,⟨g3.1,g3.2.1⟩,tl,h7,by rw [g1.2.2,g3.2.2,g6.2.2];simp⟩))
  · cases h
attribute [local irreducible] callFunc Go.method J JL JO JR JR1 JRl Ct JG JM JM1 JW JW1 JQ JQ0 JS CtD yW ints by8 chkA uI zZ vY vC temO xS staO sec1O sec2O sec3O xT xB oneO xX prmO insO arO mayB
set_option synthInstance.maxHeartbeats 400000 in
set_option synthInstance.maxSize 2000 in
set_option maxHeartbeats 4000000 in
theorem dmay_c (m : Mdl) (hB : BndM m) : Ct Tryz.prog 23 #[.agg (tN m).toArray] [vY m] (wZ (.bool (mayB m)) []) := by
  have n1' : ∀ x ∈ m.nodes,(xS x).isSome = false → mayB m = false := fun _ => may_1
  have n2' : ∀ x ∈ m.temps,(temO x).isSome = false → mayB m = false := fun _ => may_2
  have n3' : ∀ x ∈ m.chans,(xB x).isSome = false → mayB m = false := fun _ => may_3
  have n4' : ∀ x ∈ m.starts,(staO x).isSome = false → mayB m = false := fun _ => may_4
  have hok := may_ok (m := m)
  obtain ⟨v,hv⟩ : ∃ v,v = mayB m := ⟨_,rfl⟩
  rw [← hv] at n1' n2' n3' n4' hok ⊢
  clear hv
  obtain ⟨b1,b2,b3,b4⟩ := hB
  refine Ct.heap (modR7 m) ?_
  obtain ⟨ns,⟨p1,k1⟩,ts,⟨p2,k2⟩,cs,⟨p3,k3⟩,ss,⟨p4,k4⟩,u1,u1a,u2,u2a,u3,u3a,u4,u4a⟩ := m
  dsimp only at n1' n2' n3' n4' hok b1 b2 b3 b4 ⊢
  refine yE (vs := [.agg [slc (p1,k1) ns.length,slc (p2,k2) ts.length,slc (p3,k3) cs.length,slc (p4,k4) ss.length,slc u1a u1.length,slc u2a u2.length,slc u3a u3.length,slc u4a u4.length].toArray]) Tryz.func23 rfl Tryz.ntmps23 (by simp) ?_
  repeat (first|(first|refine zB ?_|refine zD ?_|refine zG ?_)|(first|((first|refine zA rfl ?_);first|refine zC rfl rfl ?_|refine yB rfl rfl (fun r => ?_))))
  revert r
  intro n1
  refine tM (α := { _u : Unit // ∀ x ∈ ns,(xS x).isSome = true }) (fun _ => [(1,ptr n1)]) (fun _ => [pt n1 (.cells [slc (p1,k1) ns.length,slc (p2,k2) ts.length,slc (p3,k3) cs.length,slc (p4,k4) ss.length,slc u1a u1.length,slc u2a u2.length,slc u3a u3.length,slc u4a u4.length].toArray 28 (0,0)),Vw 6 (slc (p1,k1) ns.length) ns.length (ns.flatMap wI),zZ wV ns,Vw 3 (slc (p2,k2) ts.length) ts.length (ts.flatMap wK),zZ vW ts,Vw 2 (slc (p3,k3) cs.length) cs.length (cs.flatMap yG),Vw 2 (slc (p4,k4) ss.length) ss.length (ss.flatMap vE),zZ tK ss]) ?_ ?_
  · repeat (first|(first|refine zI ?_)|(first|((first|refine zA rfl ?_);first|refine zE rfl rfl ?_)))
    refine xY (β := { i : Nat // i ≤ ns.length ∧ ∀ x ∈ ns.take i,(xS x).isSome = true }) (fun i => [(1,ptr n1),(3,.int .i64 (i.1 : Int))]) (fun _ => []) (fun _ => [pt n1 (.cells [slc (p1,k1) ns.length,slc (p2,k2) ts.length,slc (p3,k3) cs.length,slc (p4,k4) ss.length,slc u1a u1.length,slc u2a u2.length,slc u3a u3.length,slc u4a u4.length].toArray 28 (0,0)),Vw 6 (slc (p1,k1) ns.length) ns.length (ns.flatMap wI),zZ wV ns,Vw 3 (slc (p2,k2) ts.length) ts.length (ts.flatMap wK),zZ vW ts,Vw 2 (slc (p3,k3) cs.length) cs.length (cs.flatMap yG),Vw 2 (slc (p4,k4) ss.length) ss.length (ss.flatMap vE),zZ tK ss]) (fun i => ns.length - i.1) ⟨0,by omega,by simp⟩ ?_ rfl Ent.sel ?_
    · (repeat (first|exact zN _|refine zJ rfl ?_))
    rintro ⟨i,hi,hg⟩
    dsimp only
    by_cases hil : i < ns.length
    · obtain ⟨x,hx⟩ : ∃ x,ns[i]? = some x := ⟨_,List.getElem?_eq_getElem hil⟩
      have hxm := List.mem_of_getElem? hx
      refine wS (φ := ∃ b o,p1 = some ⟨b,o,none⟩) (fun F w hs => (Ent.sel (K := [Vw 6 (slc (p1,k1) ns.length) ns.length (ns.flatMap wI)]) F w hs).tail.out (fun k hk => wN (by omega) k hk)) (fun hp => ?_)
      obtain ⟨q1,o1,rfl⟩ := hp
      refine J_all wV ns x pers_nodR hxm ?_
      have c := dnode_c x (b1.2 x hxm)
      cases hb : (xS x).isSome with
      | false =>
        rw [hb] at c
        obtain rfl := n1' x hxm hb
        repeat (first|(first|refine zB ?_|refine zD ?_|refine zG ?_|refine zI ?_|refine zP ?_|refine zL rfl ?_|refine zR ?_)|(first|((first|refine zA rfl ?_);first|refine JOq (yF rfl rfl (by omega)) rfl ?_|refine xM rfl rfl hil rfl ?_|refine JOq (wC (wI x) rfl (fun u z hu => xJ (b := q1) (o := o1) (n := ns.length) (cap := k1) (j := i) hil (by rw [xA nodC_len _ _ _ _ (by have := (List.getElem?_eq_some_iff.1 hu).1;exact this) hx];exact hu)) rfl) rfl ?_|refine zE rfl rfl ?_|refine zC rfl rfl ?_|refine yA rfl rfl ?_|refine zF rfl rfl ?_|refine zH rfl rfl ?_|refine xF rfl rfl ?_|refine zO rfl (c) rfl ?_)))
        exact zS rfl rfl .nil
      | true =>
        rw [hb] at c
        repeat (first|(first|refine zB ?_|refine zD ?_|refine zG ?_|refine zI ?_|refine zP ?_|refine zL rfl ?_|refine zK rfl ?_)|(first|((first|refine zA rfl ?_);first|refine JOq (yF rfl rfl (by omega)) rfl ?_|refine xM rfl rfl hil rfl ?_|refine JOq (wC (wI x) rfl (fun u z hu => xJ (b := q1) (o := o1) (n := ns.length) (cap := k1) (j := i) hil (by rw [xA nodC_len _ _ _ _ (by have := (List.getElem?_eq_some_iff.1 hu).1;exact this) hx];exact hu)) rfl) rfl ?_|refine xD (b := 1) rfl rfl (by omega) rfl ?_|refine zE rfl rfl ?_|refine zC rfl rfl ?_|refine yA rfl rfl ?_|refine zF rfl rfl ?_|refine zH rfl rfl ?_|refine xF rfl rfl ?_|refine zO rfl (c) rfl ?_)))
        exact ⟨⟨i + 1,by omega,take_good hx hg hb⟩,by simp only;omega,by (repeat (first|exact zN _|refine zJ rfl ?_)),rfl,Ent.sel⟩
    · obtain rfl : i = ns.length := by omega
      rw [List.take_length] at hg
      repeat (first|(first|refine zB ?_|refine zD ?_|refine zG ?_|refine zK rfl ?_|refine xN ?_)|(first|((first|refine zA rfl ?_);first|refine JOq (yO rfl rfl (by omega)) rfl ?_|refine zE rfl rfl ?_|refine yA rfl rfl ?_|refine zF rfl rfl ?_|refine zH rfl rfl ?_)))
      exact ⟨⟨(),hg⟩,by (repeat (first|exact zN _|refine zJ rfl ?_)),rfl,Ent.sel⟩
  rintro ⟨⟨⟩,hg1⟩
  dsimp only [thn]
  repeat (first|(first|refine zB ?_|refine zD ?_|refine zG ?_)|(first|((first|refine zA rfl ?_);first|refine zC rfl rfl ?_)))
  refine tM (α := { _u : Unit // ∀ x ∈ ts,(temO x).isSome = true }) (fun _ => [(1,ptr n1)]) (fun _ => [pt n1 (.cells [slc (p1,k1) ns.length,slc (p2,k2) ts.length,slc (p3,k3) cs.length,slc (p4,k4) ss.length,slc u1a u1.length,slc u2a u2.length,slc u3a u3.length,slc u4a u4.length].toArray 28 (0,0)),Vw 6 (slc (p1,k1) ns.length) ns.length (ns.flatMap wI),zZ wV ns,Vw 3 (slc (p2,k2) ts.length) ts.length (ts.flatMap wK),zZ vW ts,Vw 2 (slc (p3,k3) cs.length) cs.length (cs.flatMap yG),Vw 2 (slc (p4,k4) ss.length) ss.length (ss.flatMap vE),zZ tK ss]) ?_ ?_
  · repeat (first|(first|refine zI ?_)|(first|((first|refine zA rfl ?_);first|refine zE rfl rfl ?_)))
    refine xY (β := { i : Nat // i ≤ ts.length ∧ ∀ x ∈ ts.take i,(temO x).isSome = true }) (fun i => [(1,ptr n1),(4,.int .i64 (i.1 : Int))]) (fun _ => []) (fun _ => [pt n1 (.cells [slc (p1,k1) ns.length,slc (p2,k2) ts.length,slc (p3,k3) cs.length,slc (p4,k4) ss.length,slc u1a u1.length,slc u2a u2.length,slc u3a u3.length,slc u4a u4.length].toArray 28 (0,0)),Vw 6 (slc (p1,k1) ns.length) ns.length (ns.flatMap wI),zZ wV ns,Vw 3 (slc (p2,k2) ts.length) ts.length (ts.flatMap wK),zZ vW ts,Vw 2 (slc (p3,k3) cs.length) cs.length (cs.flatMap yG),Vw 2 (slc (p4,k4) ss.length) ss.length (ss.flatMap vE),zZ tK ss]) (fun i => ts.length - i.1) ⟨0,by omega,by simp⟩ ?_ rfl Ent.sel ?_
    · (repeat (first|exact zN _|refine zJ rfl ?_))
    rintro ⟨i,hi,hg⟩
    dsimp only
    by_cases hil : i < ts.length
    · obtain ⟨x,hx⟩ : ∃ x,ts[i]? = some x := ⟨_,List.getElem?_eq_getElem hil⟩
      have hxm := List.mem_of_getElem? hx
      refine wS (φ := ∃ b o,p2 = some ⟨b,o,none⟩) (fun F w hs => (Ent.sel (K := [Vw 3 (slc (p2,k2) ts.length) ts.length (ts.flatMap wK)]) F w hs).tail.out (fun k hk => wN (by omega) k hk)) (fun hp => ?_)
      obtain ⟨q1,o1,rfl⟩ := hp
      refine J_all vW ts x pers_temR hxm ?_
      have c := dtemplate_c x (b2.2 x hxm).1 (b2.2 x hxm).2
      cases hb : (temO x).isSome with
      | false =>
        rw [hb] at c
        obtain rfl := n2' x hxm hb
        repeat (first|(first|refine zB ?_|refine zD ?_|refine zG ?_|refine zI ?_|refine zP ?_|refine zL rfl ?_|refine zR ?_)|(first|((first|refine zA rfl ?_);first|refine JOq (yF rfl rfl (by omega)) rfl ?_|refine xM rfl rfl hil rfl ?_|refine JOq (wC (wK x) rfl (fun u z hu => xJ (b := q1) (o := o1) (n := ts.length) (cap := k2) (j := i) hil (by rw [xA temC_len _ _ _ _ (by have := (List.getElem?_eq_some_iff.1 hu).1;exact this) hx];exact hu)) rfl) rfl ?_|refine zE rfl rfl ?_|refine zC rfl rfl ?_|refine yA rfl rfl ?_|refine zF rfl rfl ?_|refine zH rfl rfl ?_|refine xF rfl rfl ?_|refine yD rfl (c) rfl ?_)))
        exact zS rfl rfl .nil
      | true =>
        rw [hb] at c
        repeat (first|(first|refine zB ?_|refine zD ?_|refine zG ?_|refine zI ?_|refine zP ?_|refine zL rfl ?_|refine zK rfl ?_)|(first|((first|refine zA rfl ?_);first|refine JOq (yF rfl rfl (by omega)) rfl ?_|refine xM rfl rfl hil rfl ?_|refine JOq (wC (wK x) rfl (fun u z hu => xJ (b := q1) (o := o1) (n := ts.length) (cap := k2) (j := i) hil (by rw [xA temC_len _ _ _ _ (by have := (List.getElem?_eq_some_iff.1 hu).1;exact this) hx];exact hu)) rfl) rfl ?_|refine xD (b := 1) rfl rfl (by omega) rfl ?_|refine zE rfl rfl ?_|refine zC rfl rfl ?_|refine yA rfl rfl ?_|refine zF rfl rfl ?_|refine zH rfl rfl ?_|refine xF rfl rfl ?_|refine yD rfl (c) rfl ?_)))
        exact ⟨⟨i + 1,by omega,take_good hx hg hb⟩,by simp only;omega,by (repeat (first|exact zN _|refine zJ rfl ?_)),rfl,Ent.sel⟩
    · obtain rfl : i = ts.length := by omega
      rw [List.take_length] at hg
      repeat (first|(first|refine zB ?_|refine zD ?_|refine zG ?_|refine zK rfl ?_|refine xN ?_)|(first|((first|refine zA rfl ?_);first|refine JOq (yO rfl rfl (by omega)) rfl ?_|refine zE rfl rfl ?_|refine yA rfl rfl ?_|refine zF rfl rfl ?_|refine zH rfl rfl ?_)))
      exact ⟨⟨(),hg⟩,by (repeat (first|exact zN _|refine zJ rfl ?_)),rfl,Ent.sel⟩
  rintro ⟨⟨⟩,hg2⟩
  dsimp only [thn]
  repeat (first|(first|refine zB ?_|refine zD ?_|refine zG ?_)|(first|((first|refine zA rfl ?_);first|refine zC rfl rfl ?_)))
  refine tM (α := { _u : Unit // ∀ x ∈ cs,(xB x).isSome = true }) (fun _ => [(1,ptr n1)]) (fun _ => [pt n1 (.cells [slc (p1,k1) ns.length,slc (p2,k2) ts.length,slc (p3,k3) cs.length,slc (p4,k4) ss.length,slc u1a u1.length,slc u2a u2.length,slc u3a u3.length,slc u4a u4.length].toArray 28 (0,0)),Vw 6 (slc (p1,k1) ns.length) ns.length (ns.flatMap wI),zZ wV ns,Vw 3 (slc (p2,k2) ts.length) ts.length (ts.flatMap wK),zZ vW ts,Vw 2 (slc (p3,k3) cs.length) cs.length (cs.flatMap yG),Vw 2 (slc (p4,k4) ss.length) ss.length (ss.flatMap vE),zZ tK ss]) ?_ ?_
  · repeat (first|(first|refine zI ?_)|(first|((first|refine zA rfl ?_);first|refine zE rfl rfl ?_)))
    refine xY (β := { i : Nat // i ≤ cs.length ∧ ∀ x ∈ cs.take i,(xB x).isSome = true }) (fun i => [(1,ptr n1),(5,.int .i64 (i.1 : Int))]) (fun _ => []) (fun _ => [pt n1 (.cells [slc (p1,k1) ns.length,slc (p2,k2) ts.length,slc (p3,k3) cs.length,slc (p4,k4) ss.length,slc u1a u1.length,slc u2a u2.length,slc u3a u3.length,slc u4a u4.length].toArray 28 (0,0)),Vw 6 (slc (p1,k1) ns.length) ns.length (ns.flatMap wI),zZ wV ns,Vw 3 (slc (p2,k2) ts.length) ts.length (ts.flatMap wK),zZ vW ts,Vw 2 (slc (p3,k3) cs.length) cs.length (cs.flatMap yG),Vw 2 (slc (p4,k4) ss.length) ss.length (ss.flatMap vE),zZ tK ss]) (fun i => cs.length - i.1) ⟨0,by omega,by simp⟩ ?_ rfl Ent.sel ?_
    · (repeat (first|exact zN _|refine zJ rfl ?_))
    rintro ⟨i,hi,hg⟩
    dsimp only
    by_cases hil : i < cs.length
    · obtain ⟨x,hx⟩ : ∃ x,cs[i]? = some x := ⟨_,List.getElem?_eq_getElem hil⟩
      have hxm := List.mem_of_getElem? hx
      refine wS (φ := ∃ b o,p3 = some ⟨b,o,none⟩) (fun F w hs => (Ent.sel (K := [Vw 2 (slc (p3,k3) cs.length) cs.length (cs.flatMap yG)]) F w hs).tail.out (fun k hk => wN (by omega) k hk)) (fun hp => ?_)
      obtain ⟨q1,o1,rfl⟩ := hp
      have c := dtyp_c x
      cases hb : (xB x).isSome with
      | false =>
        rw [hb] at c
        obtain rfl := n3' x hxm hb
        repeat (first|(first|refine zB ?_|refine zD ?_|refine zG ?_|refine zI ?_|refine zP ?_|refine zL rfl ?_|refine zR ?_)|(first|((first|refine zA rfl ?_);first|refine JOq (yF rfl rfl (by omega)) rfl ?_|refine xM rfl rfl hil rfl ?_|refine JOq (wC (yG x) rfl (fun u z hu => xJ (b := q1) (o := o1) (n := cs.length) (cap := k3) (j := i) hil (by rw [xA edgeC_len _ _ _ _ (by have := (List.getElem?_eq_some_iff.1 hu).1;exact this) hx];exact hu)) rfl) rfl ?_|refine zE rfl rfl ?_|refine zC rfl rfl ?_|refine yA rfl rfl ?_|refine zF rfl rfl ?_|refine zH rfl rfl ?_|refine xF rfl rfl ?_|refine zO rfl (c) rfl ?_)))
        exact zS rfl rfl .nil
      | true =>
        rw [hb] at c
        repeat (first|(first|refine zB ?_|refine zD ?_|refine zG ?_|refine zI ?_|refine zP ?_|refine zL rfl ?_|refine zK rfl ?_)|(first|((first|refine zA rfl ?_);first|refine JOq (yF rfl rfl (by omega)) rfl ?_|refine xM rfl rfl hil rfl ?_|refine JOq (wC (yG x) rfl (fun u z hu => xJ (b := q1) (o := o1) (n := cs.length) (cap := k3) (j := i) hil (by rw [xA edgeC_len _ _ _ _ (by have := (List.getElem?_eq_some_iff.1 hu).1;exact this) hx];exact hu)) rfl) rfl ?_|refine xD (b := 1) rfl rfl (by omega) rfl ?_|refine zE rfl rfl ?_|refine zC rfl rfl ?_|refine yA rfl rfl ?_|refine zF rfl rfl ?_|refine zH rfl rfl ?_|refine xF rfl rfl ?_|refine zO rfl (c) rfl ?_)))
        exact ⟨⟨i + 1,by omega,take_good hx hg hb⟩,by simp only;omega,by (repeat (first|exact zN _|refine zJ rfl ?_)),rfl,Ent.sel⟩
    · obtain rfl : i = cs.length := by omega
      rw [List.take_length] at hg
      repeat (first|(first|refine zB ?_|refine zD ?_|refine zG ?_|refine zK rfl ?_|refine xN ?_)|(first|((first|refine zA rfl ?_);first|refine JOq (yO rfl rfl (by omega)) rfl ?_|refine zE rfl rfl ?_|refine yA rfl rfl ?_|refine zF rfl rfl ?_|refine zH rfl rfl ?_)))
      exact ⟨⟨(),hg⟩,by (repeat (first|exact zN _|refine zJ rfl ?_)),rfl,Ent.sel⟩
  rintro ⟨⟨⟩,hg3⟩
  dsimp only [thn]
  repeat (first|(first|refine zB ?_|refine zD ?_|refine zG ?_)|(first|((first|refine zA rfl ?_);first|refine zC rfl rfl ?_)))
  refine tM (α := { _u : Unit // ∀ x ∈ ss,(staO x).isSome = true }) (fun _ => [(1,ptr n1)]) (fun _ => [pt n1 (.cells [slc (p1,k1) ns.length,slc (p2,k2) ts.length,slc (p3,k3) cs.length,slc (p4,k4) ss.length,slc u1a u1.length,slc u2a u2.length,slc u3a u3.length,slc u4a u4.length].toArray 28 (0,0)),Vw 6 (slc (p1,k1) ns.length) ns.length (ns.flatMap wI),zZ wV ns,Vw 3 (slc (p2,k2) ts.length) ts.length (ts.flatMap wK),zZ vW ts,Vw 2 (slc (p3,k3) cs.length) cs.length (cs.flatMap yG),Vw 2 (slc (p4,k4) ss.length) ss.length (ss.flatMap vE),zZ tK ss]) ?_ ?_
  · repeat (first|(first|refine zI ?_)|(first|((first|refine zA rfl ?_);first|refine zE rfl rfl ?_)))
    refine xY (β := { i : Nat // i ≤ ss.length ∧ ∀ x ∈ ss.take i,(staO x).isSome = true }) (fun i => [(1,ptr n1),(6,.int .i64 (i.1 : Int))]) (fun _ => []) (fun _ => [pt n1 (.cells [slc (p1,k1) ns.length,slc (p2,k2) ts.length,slc (p3,k3) cs.length,slc (p4,k4) ss.length,slc u1a u1.length,slc u2a u2.length,slc u3a u3.length,slc u4a u4.length].toArray 28 (0,0)),Vw 6 (slc (p1,k1) ns.length) ns.length (ns.flatMap wI),zZ wV ns,Vw 3 (slc (p2,k2) ts.length) ts.length (ts.flatMap wK),zZ vW ts,Vw 2 (slc (p3,k3) cs.length) cs.length (cs.flatMap yG),Vw 2 (slc (p4,k4) ss.length) ss.length (ss.flatMap vE),zZ tK ss]) (fun i => ss.length - i.1) ⟨0,by omega,by simp⟩ ?_ rfl Ent.sel ?_
    · (repeat (first|exact zN _|refine zJ rfl ?_))
    rintro ⟨i,hi,hg⟩
    dsimp only
    by_cases hil : i < ss.length
    · obtain ⟨x,hx⟩ : ∃ x,ss[i]? = some x := ⟨_,List.getElem?_eq_getElem hil⟩
      have hxm := List.mem_of_getElem? hx
      refine wS (φ := ∃ b o,p4 = some ⟨b,o,none⟩) (fun F w hs => (Ent.sel (K := [Vw 2 (slc (p4,k4) ss.length) ss.length (ss.flatMap vE)]) F w hs).tail.out (fun k hk => wN (by omega) k hk)) (fun hp => ?_)
      obtain ⟨q1,o1,rfl⟩ := hp
      refine J_all tK ss x pers_staQ hxm ?_
      refine vH (tK x) ?_
      refine wJ staR_of ?_
      have c := dstart_c x (b4.2 x hxm)
      cases hb : (staO x).isSome with
      | false =>
        rw [hb] at c
        obtain rfl := n4' x hxm hb
        repeat (first|(first|refine zB ?_|refine zD ?_|refine zG ?_|refine zI ?_|refine zP ?_|refine zL rfl ?_|refine zR ?_)|(first|((first|refine zA rfl ?_);first|refine JOq (yF rfl rfl (by omega)) rfl ?_|refine xM rfl rfl hil rfl ?_|refine JOq (wC (vE x) rfl (fun u z hu => xJ (b := q1) (o := o1) (n := ss.length) (cap := k4) (j := i) hil (by rw [xA staC_len _ _ _ _ (by have := (List.getElem?_eq_some_iff.1 hu).1;exact this) hx];exact hu)) rfl) rfl ?_|refine zE rfl rfl ?_|refine zC rfl rfl ?_|refine yA rfl rfl ?_|refine zF rfl rfl ?_|refine zH rfl rfl ?_|refine xF rfl rfl ?_|refine zO rfl (c) rfl ?_)))
        exact zS rfl rfl .nil
      | true =>
        rw [hb] at c
        repeat (first|(first|refine zB ?_|refine zD ?_|refine zG ?_|refine zI ?_|refine zP ?_|refine zL rfl ?_|refine zK rfl ?_)|(first|((first|refine zA rfl ?_);first|refine JOq (yF rfl rfl (by omega)) rfl ?_|refine xM rfl rfl hil rfl ?_|refine JOq (wC (vE x) rfl (fun u z hu => xJ (b := q1) (o := o1) (n := ss.length) (cap := k4) (j := i) hil (by rw [xA staC_len _ _ _ _ (by have := (List.getElem?_eq_some_iff.1 hu).1;exact this) hx];exact hu)) rfl) rfl ?_|refine xD (b := 1) rfl rfl (by omega) rfl ?_|refine zE rfl rfl ?_|refine zC rfl rfl ?_|refine yA rfl rfl ?_|refine zF rfl rfl ?_|refine zH rfl rfl ?_|refine xF rfl rfl ?_|refine zO rfl (c) rfl ?_)))
        exact ⟨⟨i + 1,by omega,take_good hx hg hb⟩,by simp only;omega,by (repeat (first|exact zN _|refine zJ rfl ?_)),rfl,Ent.sel⟩
    · obtain rfl : i = ss.length := by omega
      rw [List.take_length] at hg
      repeat (first|(first|refine zB ?_|refine zD ?_|refine zG ?_|refine zK rfl ?_|refine xN ?_)|(first|((first|refine zA rfl ?_);first|refine JOq (yO rfl rfl (by omega)) rfl ?_|refine zE rfl rfl ?_|refine yA rfl rfl ?_|refine zF rfl rfl ?_|refine zH rfl rfl ?_)))
      exact ⟨⟨(),hg⟩,by (repeat (first|exact zN _|refine zJ rfl ?_)),rfl,Ent.sel⟩
  rintro ⟨⟨⟩,hg4⟩
  dsimp only [thn]
  obtain rfl := hok hg1 hg2 hg3 hg4
  by_cases g0 : (ns.length : Int) ≤ 64
  · skip
    by_cases g1 : (ts.length : Int) ≤ 16
    · skip
      by_cases g2 : (cs.length : Int) ≤ 16
      · skip
        by_cases g3 : (ss.length : Int) ≤ 8
        · skip
          rw [decide_eq_true g0,decide_eq_true g1,decide_eq_true g2,decide_eq_true g3]
          repeat (first|(first|refine zB ?_|refine zD ?_|refine zG ?_|refine zR ?_)|(first|((first|refine zA rfl ?_|refine zV rfl rfl ?_);first|refine JOq (JQ_leqT rfl rfl (by omega)) rfl ?_|refine zE rfl rfl ?_|refine zC rfl rfl ?_|refine yA rfl rfl ?_|refine zF rfl rfl ?_|refine zH rfl rfl ?_|refine zU rfl rfl rfl ?_)))
          exact zS rfl rfl .nil
        · rw [decide_eq_true g0,decide_eq_true g1,decide_eq_true g2,decide_eq_false g3]
          repeat (first|(first|refine zB ?_|refine zD ?_|refine zG ?_|refine zR ?_)|(first|((first|refine zA rfl ?_|refine zV rfl rfl ?_);first|refine JOq (JQ_leqT rfl rfl (by omega)) rfl ?_|refine JOq (JQ_leqF rfl rfl (by omega)) rfl ?_|refine zE rfl rfl ?_|refine zC rfl rfl ?_|refine yA rfl rfl ?_|refine zF rfl rfl ?_|refine zH rfl rfl ?_|refine zU rfl rfl rfl ?_)))
          exact zS rfl rfl .nil
      · rw [decide_eq_true g0,decide_eq_true g1,decide_eq_false g2]
        repeat (first|(first|refine zB ?_|refine zD ?_|refine zG ?_|refine zR ?_)|(first|((first|refine zA rfl ?_|refine zV rfl rfl ?_);first|refine JOq (JQ_leqT rfl rfl (by omega)) rfl ?_|refine JOq (JQ_leqF rfl rfl (by omega)) rfl ?_|refine zE rfl rfl ?_|refine zC rfl rfl ?_|refine yA rfl rfl ?_|refine zF rfl rfl ?_|refine zH rfl rfl ?_|refine zU rfl rfl rfl ?_|refine zY rfl rfl rfl ?_)|refine yN rfl rfl rfl ?_))
        exact zS rfl rfl .nil
    · rw [decide_eq_true g0,decide_eq_false g1]
      repeat (first|(first|refine zB ?_|refine zD ?_|refine zG ?_|refine zR ?_)|(first|((first|refine zA rfl ?_|refine zV rfl rfl ?_);first|refine JOq (JQ_leqT rfl rfl (by omega)) rfl ?_|refine JOq (JQ_leqF rfl rfl (by omega)) rfl ?_|refine zE rfl rfl ?_|refine zC rfl rfl ?_|refine yA rfl rfl ?_|refine zF rfl rfl ?_|refine zH rfl rfl ?_|refine zU rfl rfl rfl ?_|refine zY rfl rfl rfl ?_)|refine yN rfl rfl rfl ?_))
      exact zS rfl rfl .nil
  · rw [decide_eq_false g0]
    repeat (first|(first|refine zB ?_|refine zD ?_|refine zG ?_|refine zR ?_)|(first|((first|refine zA rfl ?_);first|refine JOq (JQ_leqF rfl rfl (by omega)) rfl ?_|refine zE rfl rfl ?_|refine zC rfl rfl ?_|refine yA rfl rfl ?_|refine zF rfl rfl ?_|refine zH rfl rfl ?_|refine zY rfl rfl rfl ?_)|refine yN rfl rfl rfl ?_))
    exact zS rfl rfl .nil
theorem uZ {α : Type} {o : α → OB} {l : List α} {i : Nat} {x : α} {r c : List UInt8} (hx : l[i]? = some x) (h : vR o (l.take i) = some r) (hc : o x = some c) : vR o (l.take (i + 1)) = some (r ++ c) := by
  rw [List.take_add_one,hx]
  show vR o (l.take i ++ [x]) = _
  rw [mapO_snoc,h,hc,catO_some]
theorem uQ {α : Type} {o : α → OB} {l : List α} {i b : Nat} {r : List UInt8} (h : vR o (l.take i) = some r) (hl : l.length ≤ 100000) (hb : b ≤ 100000) (ho : ∀ x c,o x = some c → c.length ≤ b) : r.length ≤ 10000000000 := by
  have h1 := mapO_len (cost := fun _ => b) ho h
  have h2 := uH (f := fun _ : α => b) (b := b) (l := l.take i) fun _ _ => Nat.le_refl _
  have h3 : (l.take i).length * b ≤ 100000 * 100000 := Nat.mul_le_mul (by rw [List.length_take];omega) hb
  omega
theorem wQ {n : Int} (h : 0 ≤ n ∧ n ≤ 1000000) : (wF n).length ≤ 10 := wP (by omega)
set_option maxHeartbeats 4000000 in
theorem dlayNode_c {n : Nod} {b : List UInt8} (h : xS n = some b) (hb : n.next.length ≤ 100000) : Ct Tryz.prog 25 #[.agg (wI n).toArray] [wV n] (wZ (str b) []) := by
  have hk := lay_nodeK h
  clear h
  obtain ⟨kind,prio,ch,⟨e1,e2⟩,next,⟨pn,kn⟩⟩ := n
  dsimp only at hk hb
  refine yE (vs := [.agg [.int .i64 kind,.int .i64 prio,.bool ch,.int .i64 e1,.int .i64 e2,slc (pn,kn) next.length].toArray]) Tryz.func25 rfl Tryz.ntmps25 (by simp) ?_
  repeat (first|(first|refine zB ?_|refine zD ?_|refine zG ?_)|(first|((first|refine zA rfl ?_);first|refine zC rfl rfl ?_|refine zF rfl rfl ?_|refine zH rfl rfl ?_|refine yB rfl rfl (fun r => ?_))))
  revert r
  intro n1
  rcases hk with ⟨rfl,rfl,rfl⟩ | hk
  · have c0 := uW 0 (by decide)
    repeat (first|(first|refine zB ?_|refine zD ?_|refine zG ?_|refine zL rfl ?_|refine zR ?_)|(first|((first|refine zA rfl ?_);first|refine JOq (yX rfl rfl (by omega)) rfl ?_|refine zE rfl rfl ?_|refine zC rfl rfl ?_|refine zF rfl rfl ?_|refine zH rfl rfl ?_|refine zO rfl (c0) rfl ?_)))
    exact zS rfl rfl .nil
  obtain ⟨hd,tl,rfl,htl,hdl,hk⟩ : ∃ hd tl,b = hd ++ tl ∧ vR xB next = some tl ∧ hd.length ≤ 100 ∧ ((kind = 5 ∧ hd = wF 5) ∨ ((kind = 1 ∨ kind = 2) ∧ (0 ≤ prio ∧ prio ≤ 1000) ∧ ((ch = true ∧ ∃ pb,xB (e1,e2) = some pb ∧ hd = (((wF kind ++ wF prio) ++ wF 1) ++ pb)) ∨ (ch = false ∧ hd = ((wF kind ++ wF prio) ++ wF 0)))) ∨ ((kind = 3 ∨ kind = 4) ∧ (0 ≤ prio ∧ prio ≤ 1000) ∧ hd = ((wF kind ++ wF prio) ++ wF (next.length : Int)))) := by
    rcases hk with ⟨k5,tl,ht,rfl⟩ | ⟨k12,hp,tl,ht,⟨hc,pb,hpb,rfl⟩ | ⟨hc,rfl⟩⟩ | ⟨k34,hp,tl,ht,rfl⟩
    · have := wQ (n := 5) (by omega)
      exact ⟨_,tl,rfl,ht,by omega,.inl ⟨k5,rfl⟩⟩
    · have := wQ (n := kind) (by omega)
      have := wQ (n := prio) (by omega)
      have := wQ (n := 1) (by omega)
      have := wH hpb
      exact ⟨_,tl,rfl,ht,by simp only [List.length_append];omega,.inr (.inl ⟨k12,hp,.inl ⟨hc,pb,hpb,rfl⟩⟩)⟩
    · have := wQ (n := kind) (by omega)
      have := wQ (n := prio) (by omega)
      have := wQ (n := 0) (by omega)
      exact ⟨_,tl,rfl,ht,by simp only [List.length_append];omega,.inr (.inl ⟨k12,hp,.inr ⟨hc,rfl⟩⟩)⟩
    · have := wQ (n := kind) (by omega)
      have := wQ (n := prio) (by omega)
      have := wQ (n := (next.length : Int)) (by omega)
      exact ⟨_,tl,rfl,ht,by simp only [List.length_append];omega,.inr (.inr ⟨k34,hp,rfl⟩)⟩
  rcases hk with ⟨rfl,hhd⟩ | ⟨k12,hp,hk⟩ | ⟨k34,hp,hhd⟩
  · have c5 := uW 5 (by decide)
    rw [← hhd] at c5
    repeat (first|(first|refine zB ?_|refine zD ?_|refine zG ?_|refine zI ?_|refine zP ?_|refine zK rfl ?_)|(first|((first|refine zA rfl ?_|refine zV rfl rfl ?_);first|refine JOq (yM rfl rfl (by omega)) rfl ?_|refine JOq (JQ_neF rfl rfl (by omega)) rfl ?_|refine zE rfl rfl ?_|refine zC rfl rfl ?_|refine zF rfl rfl ?_|refine zH rfl rfl ?_|refine zY rfl rfl rfl ?_|refine zO rfl (c5) rfl ?_)))
    refine xY (β := { z : Nat × List UInt8 // z.1 ≤ next.length ∧ vR xB (next.take z.1) = some z.2 }) (fun z => [(1,ptr n1),(3,str (hd ++ z.1.2)),(4,.int .i64 (z.1.1 : Int))]) (fun _ => []) (fun _ => [pt n1 (.cells [.int .i64 5,.int .i64 prio,.bool ch,.int .i64 e1,.int .i64 e2,slc (pn,kn) next.length].toArray 58 (0,0)),Vw 2 (slc (pn,kn) next.length) next.length (next.flatMap yG)]) (fun z => next.length - z.1.1) ⟨(0,[]),by simp,rfl⟩ ?_ rfl Ent.sel ?_
    · dsimp only
      rw [List.append_nil]
      (repeat (first|exact zN _|refine zJ rfl ?_))
    rintro ⟨⟨i,r⟩,hi,hr⟩
    dsimp only at hi hr ⊢
    by_cases hil : i < next.length
    · obtain ⟨x,hx⟩ : ∃ x,next[i]? = some x := ⟨_,List.getElem?_eq_getElem hil⟩
      obtain ⟨c,hc⟩ := mapO_mem htl x (List.mem_of_getElem? hx)
      have ce := dlayEdge_c hc
      have hrl := uQ (b := 20) hr hb (by decide) (fun x c => wH)
      have hcl := wH hc
      refine wS (φ := ∃ b o,pn = some ⟨b,o,none⟩) (fun F w hs => (Ent.sel (K := [Vw 2 (slc (pn,kn) next.length) next.length (next.flatMap yG)]) F w hs).tail.out (fun k hk => wN (by omega) k hk)) (fun hp => ?_)
      obtain ⟨q1,o1,rfl⟩ := hp
      repeat (first|(first|refine zB ?_|refine zD ?_|refine zG ?_|refine zI ?_|refine zP ?_|refine zL rfl ?_)|(first|((first|refine zA rfl ?_);first|refine JOq (yF rfl rfl (by omega)) rfl ?_|refine xM rfl rfl hil rfl ?_|refine JOq (wC (yG x) rfl (fun u z hu => xJ (b := q1) (o := o1) (n := next.length) (cap := kn) (j := i) hil (by rw [xA edgeC_len _ _ _ _ (by have := (List.getElem?_eq_some_iff.1 hu).1;exact this) hx];exact hu)) rfl) rfl ?_|refine JOq (vS (r := hd ++ (r ++ c)) (List.append_assoc _ _ _) rfl rfl (by (try simp only [List.length_append]);omega)) rfl ?_|refine xD (b := 1) rfl rfl (by omega) rfl ?_|refine zE rfl rfl ?_|refine zC rfl rfl ?_|refine yA rfl rfl ?_|refine zF rfl rfl ?_|refine zH rfl rfl ?_|refine zO rfl (ce) rfl ?_)))
      exact ⟨⟨(i + 1,r ++ c),by simp only;omega,uZ hx hr hc⟩,by simp only;omega,by (repeat (first|exact zN _|refine zJ rfl ?_)),rfl,Ent.sel⟩
    · obtain rfl : i = next.length := by omega
      rw [List.take_length] at hr
      obtain rfl := Option.some.inj (hr.symm.trans htl)
      repeat (first|(first|refine zB ?_|refine zD ?_|refine zG ?_|refine zK rfl ?_|refine xN ?_|refine zR ?_)|(first|((first|refine zA rfl ?_);first|refine JOq (yO rfl rfl (by omega)) rfl ?_|refine zE rfl rfl ?_|refine zC rfl rfl ?_|refine yA rfl rfl ?_|refine zF rfl rfl ?_|refine zH rfl rfl ?_)))
      exact zS rfl rfl .nil
  · have cp := uW prio (by omega)
    have hlp := wQ (n := prio) (by omega)
    have hl1 := wQ (n := 1) (by omega)
    have hl0 := wQ (n := 0) (by omega)
    rcases k12 with rfl | rfl
    · have ck := uW 1 (by decide)
      have hlk := wQ (n := 1) (by omega)
      rcases hk with ⟨rfl,pb,hpb,hhd⟩ | ⟨rfl,hhd⟩
      · have c1 := uW 1 (by decide)
        have ce := dlayEdge_c hpb
        have hlb := wH hpb
        repeat (first|(first|refine zB ?_|refine zD ?_|refine zG ?_|refine zP ?_|refine zL rfl ?_|refine zK rfl ?_)|(first|((first|refine zA rfl ?_);first|refine JOq (yX rfl rfl (by omega)) rfl ?_|refine JOq (yM rfl rfl (by omega)) rfl ?_|refine JOq (tI rfl rfl (by omega)) rfl ?_|refine JOq (vG rfl rfl (by (try simp only [List.length_append]);omega)) rfl ?_|refine zE rfl rfl ?_|refine zC rfl rfl ?_|refine zF rfl rfl ?_|refine zH rfl rfl ?_|refine zU rfl rfl rfl ?_|refine zO rfl (ck) rfl ?_|refine zO rfl (cp) rfl ?_)|refine yN rfl rfl rfl ?_))
        repeat (first|refine J_regionG ?_|refine JG_fin rfl ?_|refine JG_n rfl rfl rfl (by kernel_rfl) (by kernel_rfl) rfl Ent.sel (by first|exact vS hhd.symm rfl rfl (by (try simp only [List.length_append]);omega)|exact vG rfl rfl (by (try simp only [List.length_append]);omega)|exact wC [.int .i64 e1,.int .i64 e2] rfl (fun i u hu => xV (b := n1) (off := 3 + i) (pay_get hu)) rfl|exact wX rfl|exact tJ rfl|exact vF rfl) ?_|refine JG_jo rfl rfl rfl uU (zO rfl (c1) rfl ⟨Ent.sel,?_⟩)|refine JG_jo rfl rfl rfl uU (zO rfl (ce) rfl ⟨Ent.sel,?_⟩))
        repeat (first|(first|refine zB ?_|refine zD ?_|refine zG ?_|refine zI ?_|refine zP ?_|refine zK rfl ?_)|(first|((first|refine zA rfl ?_|refine zV rfl rfl ?_);first|refine JOq (yM rfl rfl (by omega)) rfl ?_|refine zE rfl rfl ?_|refine zC rfl rfl ?_|refine zF rfl rfl ?_|refine zH rfl rfl ?_|refine zY rfl rfl rfl ?_)))
        refine xY (β := { z : Nat × List UInt8 // z.1 ≤ next.length ∧ vR xB (next.take z.1) = some z.2 }) (fun z => [(1,ptr n1),(3,str (hd ++ z.1.2)),(4,.int .i64 (z.1.1 : Int))]) (fun _ => []) (fun _ => [pt n1 (.cells [.int .i64 1,.int .i64 prio,.bool true,.int .i64 e1,.int .i64 e2,slc (pn,kn) next.length].toArray 58 (0,0)),Vw 2 (slc (pn,kn) next.length) next.length (next.flatMap yG)]) (fun z => next.length - z.1.1) ⟨(0,[]),by simp,rfl⟩ ?_ rfl Ent.sel ?_
        · dsimp only
          rw [List.append_nil]
          (repeat (first|exact zN _|refine zJ rfl ?_))
        rintro ⟨⟨i,r⟩,hi,hr⟩
        dsimp only at hi hr ⊢
        by_cases hil : i < next.length
        · obtain ⟨x,hx⟩ : ∃ x,next[i]? = some x := ⟨_,List.getElem?_eq_getElem hil⟩
          obtain ⟨c,hc⟩ := mapO_mem htl x (List.mem_of_getElem? hx)
          have ce := dlayEdge_c hc
          have hrl := uQ (b := 20) hr hb (by decide) (fun x c => wH)
          have hcl := wH hc
          refine wS (φ := ∃ b o,pn = some ⟨b,o,none⟩) (fun F w hs => (Ent.sel (K := [Vw 2 (slc (pn,kn) next.length) next.length (next.flatMap yG)]) F w hs).tail.out (fun k hk => wN (by omega) k hk)) (fun hp => ?_)
          obtain ⟨q1,o1,rfl⟩ := hp
          repeat (first|(first|refine zB ?_|refine zD ?_|refine zG ?_|refine zI ?_|refine zP ?_|refine zL rfl ?_)|(first|((first|refine zA rfl ?_);first|refine JOq (yF rfl rfl (by omega)) rfl ?_|refine xM rfl rfl hil rfl ?_|refine JOq (wC (yG x) rfl (fun u z hu => xJ (b := q1) (o := o1) (n := next.length) (cap := kn) (j := i) hil (by rw [xA edgeC_len _ _ _ _ (by have := (List.getElem?_eq_some_iff.1 hu).1;exact this) hx];exact hu)) rfl) rfl ?_|refine JOq (vS (r := hd ++ (r ++ c)) (List.append_assoc _ _ _) rfl rfl (by (try simp only [List.length_append]);omega)) rfl ?_|refine xD (b := 1) rfl rfl (by omega) rfl ?_|refine zE rfl rfl ?_|refine zC rfl rfl ?_|refine yA rfl rfl ?_|refine zF rfl rfl ?_|refine zH rfl rfl ?_|refine zO rfl (ce) rfl ?_)))
          exact ⟨⟨(i + 1,r ++ c),by simp only;omega,uZ hx hr hc⟩,by simp only;omega,by (repeat (first|exact zN _|refine zJ rfl ?_)),rfl,Ent.sel⟩
        · obtain rfl : i = next.length := by omega
          rw [List.take_length] at hr
          obtain rfl := Option.some.inj (hr.symm.trans htl)
          repeat (first|(first|refine zB ?_|refine zD ?_|refine zG ?_|refine zK rfl ?_|refine xN ?_|refine zR ?_)|(first|((first|refine zA rfl ?_);first|refine JOq (yO rfl rfl (by omega)) rfl ?_|refine zE rfl rfl ?_|refine zC rfl rfl ?_|refine yA rfl rfl ?_|refine zF rfl rfl ?_|refine zH rfl rfl ?_)))
          exact zS rfl rfl .nil
      · have c0 := uW 0 (by decide)
        repeat (first|(first|refine zB ?_|refine zD ?_|refine zG ?_|refine zI ?_|refine zP ?_|refine zL rfl ?_|refine zK rfl ?_)|(first|((first|refine zA rfl ?_|refine zV rfl rfl ?_);first|refine JOq (yX rfl rfl (by omega)) rfl ?_|refine JOq (yM rfl rfl (by omega)) rfl ?_|refine JOq (tI rfl rfl (by omega)) rfl ?_|refine JOq (vS hhd.symm rfl rfl (by (try simp only [List.length_append]);omega)) rfl ?_|refine JOq (vG rfl rfl (by (try simp only [List.length_append]);omega)) rfl ?_|refine zE rfl rfl ?_|refine zC rfl rfl ?_|refine zF rfl rfl ?_|refine zH rfl rfl ?_|refine zU rfl rfl rfl ?_|refine zY rfl rfl rfl ?_|refine zO rfl (ck) rfl ?_|refine zO rfl (cp) rfl ?_|refine zO rfl (c0) rfl ?_)|refine yN rfl rfl rfl ?_))
        refine xY (β := { z : Nat × List UInt8 // z.1 ≤ next.length ∧ vR xB (next.take z.1) = some z.2 }) (fun z => [(1,ptr n1),(3,str (hd ++ z.1.2)),(4,.int .i64 (z.1.1 : Int))]) (fun _ => []) (fun _ => [pt n1 (.cells [.int .i64 1,.int .i64 prio,.bool false,.int .i64 e1,.int .i64 e2,slc (pn,kn) next.length].toArray 58 (0,0)),Vw 2 (slc (pn,kn) next.length) next.length (next.flatMap yG)]) (fun z => next.length - z.1.1) ⟨(0,[]),by simp,rfl⟩ ?_ rfl Ent.sel ?_
        · dsimp only
          rw [List.append_nil]
          (repeat (first|exact zN _|refine zJ rfl ?_))
        rintro ⟨⟨i,r⟩,hi,hr⟩
        dsimp only at hi hr ⊢
        by_cases hil : i < next.length
        · obtain ⟨x,hx⟩ : ∃ x,next[i]? = some x := ⟨_,List.getElem?_eq_getElem hil⟩
          obtain ⟨c,hc⟩ := mapO_mem htl x (List.mem_of_getElem? hx)
          have ce := dlayEdge_c hc
          have hrl := uQ (b := 20) hr hb (by decide) (fun x c => wH)
          have hcl := wH hc
          refine wS (φ := ∃ b o,pn = some ⟨b,o,none⟩) (fun F w hs => (Ent.sel (K := [Vw 2 (slc (pn,kn) next.length) next.length (next.flatMap yG)]) F w hs).tail.out (fun k hk => wN (by omega) k hk)) (fun hp => ?_)
          obtain ⟨q1,o1,rfl⟩ := hp
          repeat (first|(first|refine zB ?_|refine zD ?_|refine zG ?_|refine zI ?_|refine zP ?_|refine zL rfl ?_)|(first|((first|refine zA rfl ?_);first|refine JOq (yF rfl rfl (by omega)) rfl ?_|refine xM rfl rfl hil rfl ?_|refine JOq (wC (yG x) rfl (fun u z hu => xJ (b := q1) (o := o1) (n := next.length) (cap := kn) (j := i) hil (by rw [xA edgeC_len _ _ _ _ (by have := (List.getElem?_eq_some_iff.1 hu).1;exact this) hx];exact hu)) rfl) rfl ?_|refine JOq (vS (r := hd ++ (r ++ c)) (List.append_assoc _ _ _) rfl rfl (by (try simp only [List.length_append]);omega)) rfl ?_|refine xD (b := 1) rfl rfl (by omega) rfl ?_|refine zE rfl rfl ?_|refine zC rfl rfl ?_|refine yA rfl rfl ?_|refine zF rfl rfl ?_|refine zH rfl rfl ?_|refine zO rfl (ce) rfl ?_)))
          exact ⟨⟨(i + 1,r ++ c),by simp only;omega,uZ hx hr hc⟩,by simp only;omega,by (repeat (first|exact zN _|refine zJ rfl ?_)),rfl,Ent.sel⟩
        · obtain rfl : i = next.length := by omega
          rw [List.take_length] at hr
          obtain rfl := Option.some.inj (hr.symm.trans htl)
          repeat (first|(first|refine zB ?_|refine zD ?_|refine zG ?_|refine zK rfl ?_|refine xN ?_|refine zR ?_)|(first|((first|refine zA rfl ?_);first|refine JOq (yO rfl rfl (by omega)) rfl ?_|refine zE rfl rfl ?_|refine zC rfl rfl ?_|refine yA rfl rfl ?_|refine zF rfl rfl ?_|refine zH rfl rfl ?_)))
          exact zS rfl rfl .nil
    · have ck := uW 2 (by decide)
      have hlk := wQ (n := 2) (by omega)
      rcases hk with ⟨rfl,pb,hpb,hhd⟩ | ⟨rfl,hhd⟩
      · have c1 := uW 1 (by decide)
        have ce := dlayEdge_c hpb
        have hlb := wH hpb
        repeat (first|(first|refine zB ?_|refine zD ?_|refine zG ?_|refine zP ?_|refine zL rfl ?_|refine zK rfl ?_)|(first|((first|refine zA rfl ?_|refine zV rfl rfl ?_);first|refine JOq (yX rfl rfl (by omega)) rfl ?_|refine JOq (yM rfl rfl (by omega)) rfl ?_|refine JOq (tI rfl rfl (by omega)) rfl ?_|refine JOq (vG rfl rfl (by (try simp only [List.length_append]);omega)) rfl ?_|refine zE rfl rfl ?_|refine zC rfl rfl ?_|refine zF rfl rfl ?_|refine zH rfl rfl ?_|refine zY rfl rfl rfl ?_|refine zO rfl (ck) rfl ?_|refine zO rfl (cp) rfl ?_)))
        repeat (first|refine J_regionG ?_|refine JG_fin rfl ?_|refine JG_n rfl rfl rfl (by kernel_rfl) (by kernel_rfl) rfl Ent.sel (by first|exact vS hhd.symm rfl rfl (by (try simp only [List.length_append]);omega)|exact vG rfl rfl (by (try simp only [List.length_append]);omega)|exact wC [.int .i64 e1,.int .i64 e2] rfl (fun i u hu => xV (b := n1) (off := 3 + i) (pay_get hu)) rfl|exact wX rfl|exact tJ rfl|exact vF rfl) ?_|refine JG_jo rfl rfl rfl uU (zO rfl (c1) rfl ⟨Ent.sel,?_⟩)|refine JG_jo rfl rfl rfl uU (zO rfl (ce) rfl ⟨Ent.sel,?_⟩))
        repeat (first|(first|refine zB ?_|refine zD ?_|refine zG ?_|refine zI ?_|refine zP ?_|refine zK rfl ?_)|(first|((first|refine zA rfl ?_|refine zV rfl rfl ?_);first|refine JOq (yM rfl rfl (by omega)) rfl ?_|refine zE rfl rfl ?_|refine zC rfl rfl ?_|refine zF rfl rfl ?_|refine zH rfl rfl ?_|refine zY rfl rfl rfl ?_)))
        refine xY (β := { z : Nat × List UInt8 // z.1 ≤ next.length ∧ vR xB (next.take z.1) = some z.2 }) (fun z => [(1,ptr n1),(3,str (hd ++ z.1.2)),(4,.int .i64 (z.1.1 : Int))]) (fun _ => []) (fun _ => [pt n1 (.cells [.int .i64 2,.int .i64 prio,.bool true,.int .i64 e1,.int .i64 e2,slc (pn,kn) next.length].toArray 58 (0,0)),Vw 2 (slc (pn,kn) next.length) next.length (next.flatMap yG)]) (fun z => next.length - z.1.1) ⟨(0,[]),by simp,rfl⟩ ?_ rfl Ent.sel ?_
        · dsimp only
          rw [List.append_nil]
          (repeat (first|exact zN _|refine zJ rfl ?_))
        rintro ⟨⟨i,r⟩,hi,hr⟩
        dsimp only at hi hr ⊢
        by_cases hil : i < next.length
        · obtain ⟨x,hx⟩ : ∃ x,next[i]? = some x := ⟨_,List.getElem?_eq_getElem hil⟩
          obtain ⟨c,hc⟩ := mapO_mem htl x (List.mem_of_getElem? hx)
          have ce := dlayEdge_c hc
          have hrl := uQ (b := 20) hr hb (by decide) (fun x c => wH)
          have hcl := wH hc
          refine wS (φ := ∃ b o,pn = some ⟨b,o,none⟩) (fun F w hs => (Ent.sel (K := [Vw 2 (slc (pn,kn) next.length) next.length (next.flatMap yG)]) F w hs).tail.out (fun k hk => wN (by omega) k hk)) (fun hp => ?_)
          obtain ⟨q1,o1,rfl⟩ := hp
          repeat (first|(first|refine zB ?_|refine zD ?_|refine zG ?_|refine zI ?_|refine zP ?_|refine zL rfl ?_)|(first|((first|refine zA rfl ?_);first|refine JOq (yF rfl rfl (by omega)) rfl ?_|refine xM rfl rfl hil rfl ?_|refine JOq (wC (yG x) rfl (fun u z hu => xJ (b := q1) (o := o1) (n := next.length) (cap := kn) (j := i) hil (by rw [xA edgeC_len _ _ _ _ (by have := (List.getElem?_eq_some_iff.1 hu).1;exact this) hx];exact hu)) rfl) rfl ?_|refine JOq (vS (r := hd ++ (r ++ c)) (List.append_assoc _ _ _) rfl rfl (by (try simp only [List.length_append]);omega)) rfl ?_|refine xD (b := 1) rfl rfl (by omega) rfl ?_|refine zE rfl rfl ?_|refine zC rfl rfl ?_|refine yA rfl rfl ?_|refine zF rfl rfl ?_|refine zH rfl rfl ?_|refine zO rfl (ce) rfl ?_)))
          exact ⟨⟨(i + 1,r ++ c),by simp only;omega,uZ hx hr hc⟩,by simp only;omega,by (repeat (first|exact zN _|refine zJ rfl ?_)),rfl,Ent.sel⟩
        · obtain rfl : i = next.length := by omega
          rw [List.take_length] at hr
          obtain rfl := Option.some.inj (hr.symm.trans htl)
          repeat (first|(first|refine zB ?_|refine zD ?_|refine zG ?_|refine zK rfl ?_|refine xN ?_|refine zR ?_)|(first|((first|refine zA rfl ?_);first|refine JOq (yO rfl rfl (by omega)) rfl ?_|refine zE rfl rfl ?_|refine zC rfl rfl ?_|refine yA rfl rfl ?_|refine zF rfl rfl ?_|refine zH rfl rfl ?_)))
          exact zS rfl rfl .nil
      · have c0 := uW 0 (by decide)
        repeat (first|(first|refine zB ?_|refine zD ?_|refine zG ?_|refine zI ?_|refine zP ?_|refine zL rfl ?_|refine zK rfl ?_)|(first|((first|refine zA rfl ?_|refine zV rfl rfl ?_);first|refine JOq (yX rfl rfl (by omega)) rfl ?_|refine JOq (yM rfl rfl (by omega)) rfl ?_|refine JOq (tI rfl rfl (by omega)) rfl ?_|refine JOq (vS hhd.symm rfl rfl (by (try simp only [List.length_append]);omega)) rfl ?_|refine JOq (vG rfl rfl (by (try simp only [List.length_append]);omega)) rfl ?_|refine zE rfl rfl ?_|refine zC rfl rfl ?_|refine zF rfl rfl ?_|refine zH rfl rfl ?_|refine zY rfl rfl rfl ?_|refine zO rfl (ck) rfl ?_|refine zO rfl (cp) rfl ?_|refine zO rfl (c0) rfl ?_)))
        refine xY (β := { z : Nat × List UInt8 // z.1 ≤ next.length ∧ vR xB (next.take z.1) = some z.2 }) (fun z => [(1,ptr n1),(3,str (hd ++ z.1.2)),(4,.int .i64 (z.1.1 : Int))]) (fun _ => []) (fun _ => [pt n1 (.cells [.int .i64 2,.int .i64 prio,.bool false,.int .i64 e1,.int .i64 e2,slc (pn,kn) next.length].toArray 58 (0,0)),Vw 2 (slc (pn,kn) next.length) next.length (next.flatMap yG)]) (fun z => next.length - z.1.1) ⟨(0,[]),by simp,rfl⟩ ?_ rfl Ent.sel ?_
        · dsimp only
          rw [List.append_nil]
          (repeat (first|exact zN _|refine zJ rfl ?_))
        rintro ⟨⟨i,r⟩,hi,hr⟩
        dsimp only at hi hr ⊢
        by_cases hil : i < next.length
        · obtain ⟨x,hx⟩ : ∃ x,next[i]? = some x := ⟨_,List.getElem?_eq_getElem hil⟩
          obtain ⟨c,hc⟩ := mapO_mem htl x (List.mem_of_getElem? hx)
          have ce := dlayEdge_c hc
          have hrl := uQ (b := 20) hr hb (by decide) (fun x c => wH)
          have hcl := wH hc
          refine wS (φ := ∃ b o,pn = some ⟨b,o,none⟩) (fun F w hs => (Ent.sel (K := [Vw 2 (slc (pn,kn) next.length) next.length (next.flatMap yG)]) F w hs).tail.out (fun k hk => wN (by omega) k hk)) (fun hp => ?_)
          obtain ⟨q1,o1,rfl⟩ := hp
          repeat (first|(first|refine zB ?_|refine zD ?_|refine zG ?_|refine zI ?_|refine zP ?_|refine zL rfl ?_)|(first|((first|refine zA rfl ?_);first|refine JOq (yF rfl rfl (by omega)) rfl ?_|refine xM rfl rfl hil rfl ?_|refine JOq (wC (yG x) rfl (fun u z hu => xJ (b := q1) (o := o1) (n := next.length) (cap := kn) (j := i) hil (by rw [xA edgeC_len _ _ _ _ (by have := (List.getElem?_eq_some_iff.1 hu).1;exact this) hx];exact hu)) rfl) rfl ?_|refine JOq (vS (r := hd ++ (r ++ c)) (List.append_assoc _ _ _) rfl rfl (by (try simp only [List.length_append]);omega)) rfl ?_|refine xD (b := 1) rfl rfl (by omega) rfl ?_|refine zE rfl rfl ?_|refine zC rfl rfl ?_|refine yA rfl rfl ?_|refine zF rfl rfl ?_|refine zH rfl rfl ?_|refine zO rfl (ce) rfl ?_)))
          exact ⟨⟨(i + 1,r ++ c),by simp only;omega,uZ hx hr hc⟩,by simp only;omega,by (repeat (first|exact zN _|refine zJ rfl ?_)),rfl,Ent.sel⟩
        · obtain rfl : i = next.length := by omega
          rw [List.take_length] at hr
          obtain rfl := Option.some.inj (hr.symm.trans htl)
          repeat (first|(first|refine zB ?_|refine zD ?_|refine zG ?_|refine zK rfl ?_|refine xN ?_|refine zR ?_)|(first|((first|refine zA rfl ?_);first|refine JOq (yO rfl rfl (by omega)) rfl ?_|refine zE rfl rfl ?_|refine zC rfl rfl ?_|refine yA rfl rfl ?_|refine zF rfl rfl ?_|refine zH rfl rfl ?_)))
          exact zS rfl rfl .nil
  · have cp := uW prio (by omega)
    have hlp := wQ (n := prio) (by omega)
    have cl := uW (next.length : Int) (by omega)
    have hll := wQ (n := (next.length : Int)) (by omega)
    rcases k34 with rfl | rfl
    · have ck := uW 3 (by decide)
      have hlk := wQ (n := 3) (by omega)
      repeat (first|(first|refine zB ?_|refine zD ?_|refine zG ?_|refine zI ?_|refine zP ?_|refine zL rfl ?_|refine zK rfl ?_)|(first|((first|refine zA rfl ?_|refine zV rfl rfl ?_);first|refine JOq (yX rfl rfl (by omega)) rfl ?_|refine JOq (yM rfl rfl (by omega)) rfl ?_|refine JOq (tI rfl rfl (by omega)) rfl ?_|refine JOq (vS hhd.symm rfl rfl (by (try simp only [List.length_append]);omega)) rfl ?_|refine JOq (vG rfl rfl (by (try simp only [List.length_append]);omega)) rfl ?_|refine zE rfl rfl ?_|refine zC rfl rfl ?_|refine yA rfl rfl ?_|refine zF rfl rfl ?_|refine zH rfl rfl ?_|refine zU rfl rfl rfl ?_|refine zY rfl rfl rfl ?_|refine zO rfl (ck) rfl ?_|refine zO rfl (cp) rfl ?_|refine zO rfl (cl) rfl ?_)|refine yN rfl rfl rfl ?_))
      refine xY (β := { z : Nat × List UInt8 // z.1 ≤ next.length ∧ vR xB (next.take z.1) = some z.2 }) (fun z => [(1,ptr n1),(3,str (hd ++ z.1.2)),(4,.int .i64 (z.1.1 : Int))]) (fun _ => []) (fun _ => [pt n1 (.cells [.int .i64 3,.int .i64 prio,.bool ch,.int .i64 e1,.int .i64 e2,slc (pn,kn) next.length].toArray 58 (0,0)),Vw 2 (slc (pn,kn) next.length) next.length (next.flatMap yG)]) (fun z => next.length - z.1.1) ⟨(0,[]),by simp,rfl⟩ ?_ rfl Ent.sel ?_
      · dsimp only
        rw [List.append_nil]
        (repeat (first|exact zN _|refine zJ rfl ?_))
      rintro ⟨⟨i,r⟩,hi,hr⟩
      dsimp only at hi hr ⊢
      by_cases hil : i < next.length
      · obtain ⟨x,hx⟩ : ∃ x,next[i]? = some x := ⟨_,List.getElem?_eq_getElem hil⟩
        obtain ⟨c,hc⟩ := mapO_mem htl x (List.mem_of_getElem? hx)
        have ce := dlayEdge_c hc
        have hrl := uQ (b := 20) hr hb (by decide) (fun x c => wH)
        have hcl := wH hc
        refine wS (φ := ∃ b o,pn = some ⟨b,o,none⟩) (fun F w hs => (Ent.sel (K := [Vw 2 (slc (pn,kn) next.length) next.length (next.flatMap yG)]) F w hs).tail.out (fun k hk => wN (by omega) k hk)) (fun hp => ?_)
        obtain ⟨q1,o1,rfl⟩ := hp
        repeat (first|(first|refine zB ?_|refine zD ?_|refine zG ?_|refine zI ?_|refine zP ?_|refine zL rfl ?_)|(first|((first|refine zA rfl ?_);first|refine JOq (yF rfl rfl (by omega)) rfl ?_|refine xM rfl rfl hil rfl ?_|refine JOq (wC (yG x) rfl (fun u z hu => xJ (b := q1) (o := o1) (n := next.length) (cap := kn) (j := i) hil (by rw [xA edgeC_len _ _ _ _ (by have := (List.getElem?_eq_some_iff.1 hu).1;exact this) hx];exact hu)) rfl) rfl ?_|refine JOq (vS (r := hd ++ (r ++ c)) (List.append_assoc _ _ _) rfl rfl (by (try simp only [List.length_append]);omega)) rfl ?_|refine xD (b := 1) rfl rfl (by omega) rfl ?_|refine zE rfl rfl ?_|refine zC rfl rfl ?_|refine yA rfl rfl ?_|refine zF rfl rfl ?_|refine zH rfl rfl ?_|refine zO rfl (ce) rfl ?_)))
        exact ⟨⟨(i + 1,r ++ c),by simp only;omega,uZ hx hr hc⟩,by simp only;omega,by (repeat (first|exact zN _|refine zJ rfl ?_)),rfl,Ent.sel⟩
      · obtain rfl : i = next.length := by omega
        rw [List.take_length] at hr
        obtain rfl := Option.some.inj (hr.symm.trans htl)
        repeat (first|(first|refine zB ?_|refine zD ?_|refine zG ?_|refine zK rfl ?_|refine xN ?_|refine zR ?_)|(first|((first|refine zA rfl ?_);first|refine JOq (yO rfl rfl (by omega)) rfl ?_|refine zE rfl rfl ?_|refine zC rfl rfl ?_|refine yA rfl rfl ?_|refine zF rfl rfl ?_|refine zH rfl rfl ?_)))
        exact zS rfl rfl .nil
    · have ck := uW 4 (by decide)
      have hlk := wQ (n := 4) (by omega)
      repeat (first|(first|refine zB ?_|refine zD ?_|refine zG ?_|refine zI ?_|refine zP ?_|refine zL rfl ?_|refine zK rfl ?_)|(first|((first|refine zA rfl ?_|refine zV rfl rfl ?_);first|refine JOq (yX rfl rfl (by omega)) rfl ?_|refine JOq (yM rfl rfl (by omega)) rfl ?_|refine JOq (tI rfl rfl (by omega)) rfl ?_|refine JOq (vS hhd.symm rfl rfl (by (try simp only [List.length_append]);omega)) rfl ?_|refine JOq (vG rfl rfl (by (try simp only [List.length_append]);omega)) rfl ?_|refine zE rfl rfl ?_|refine zC rfl rfl ?_|refine yA rfl rfl ?_|refine zF rfl rfl ?_|refine zH rfl rfl ?_|refine zY rfl rfl rfl ?_|refine zO rfl (ck) rfl ?_|refine zO rfl (cp) rfl ?_|refine zO rfl (cl) rfl ?_)))
      refine xY (β := { z : Nat × List UInt8 // z.1 ≤ next.length ∧ vR xB (next.take z.1) = some z.2 }) (fun z => [(1,ptr n1),(3,str (hd ++ z.1.2)),(4,.int .i64 (z.1.1 : Int))]) (fun _ => []) (fun _ => [pt n1 (.cells [.int .i64 4,.int .i64 prio,.bool ch,.int .i64 e1,.int .i64 e2,slc (pn,kn) next.length].toArray 58 (0,0)),Vw 2 (slc (pn,kn) next.length) next.length (next.flatMap yG)]) (fun z => next.length - z.1.1) ⟨(0,[]),by simp,rfl⟩ ?_ rfl Ent.sel ?_
      · dsimp only
        rw [List.append_nil]
        (repeat (first|exact zN _|refine zJ rfl ?_))
      rintro ⟨⟨i,r⟩,hi,hr⟩
      dsimp only at hi hr ⊢
      by_cases hil : i < next.length
      · obtain ⟨x,hx⟩ : ∃ x,next[i]? = some x := ⟨_,List.getElem?_eq_getElem hil⟩
        obtain ⟨c,hc⟩ := mapO_mem htl x (List.mem_of_getElem? hx)
        have ce := dlayEdge_c hc
        have hrl := uQ (b := 20) hr hb (by decide) (fun x c => wH)
        have hcl := wH hc
        refine wS (φ := ∃ b o,pn = some ⟨b,o,none⟩) (fun F w hs => (Ent.sel (K := [Vw 2 (slc (pn,kn) next.length) next.length (next.flatMap yG)]) F w hs).tail.out (fun k hk => wN (by omega) k hk)) (fun hp => ?_)
        obtain ⟨q1,o1,rfl⟩ := hp
        repeat (first|(first|refine zB ?_|refine zD ?_|refine zG ?_|refine zI ?_|refine zP ?_|refine zL rfl ?_)|(first|((first|refine zA rfl ?_);first|refine JOq (yF rfl rfl (by omega)) rfl ?_|refine xM rfl rfl hil rfl ?_|refine JOq (wC (yG x) rfl (fun u z hu => xJ (b := q1) (o := o1) (n := next.length) (cap := kn) (j := i) hil (by rw [xA edgeC_len _ _ _ _ (by have := (List.getElem?_eq_some_iff.1 hu).1;exact this) hx];exact hu)) rfl) rfl ?_|refine JOq (vS (r := hd ++ (r ++ c)) (List.append_assoc _ _ _) rfl rfl (by (try simp only [List.length_append]);omega)) rfl ?_|refine xD (b := 1) rfl rfl (by omega) rfl ?_|refine zE rfl rfl ?_|refine zC rfl rfl ?_|refine yA rfl rfl ?_|refine zF rfl rfl ?_|refine zH rfl rfl ?_|refine zO rfl (ce) rfl ?_)))
        exact ⟨⟨(i + 1,r ++ c),by simp only;omega,uZ hx hr hc⟩,by simp only;omega,by (repeat (first|exact zN _|refine zJ rfl ?_)),rfl,Ent.sel⟩
      · obtain rfl : i = next.length := by omega
        rw [List.take_length] at hr
        obtain rfl := Option.some.inj (hr.symm.trans htl)
        repeat (first|(first|refine zB ?_|refine zD ?_|refine zG ?_|refine zK rfl ?_|refine xN ?_|refine zR ?_)|(first|((first|refine zA rfl ?_);first|refine JOq (yO rfl rfl (by omega)) rfl ?_|refine zE rfl rfl ?_|refine zC rfl rfl ?_|refine yA rfl rfl ?_|refine zF rfl rfl ?_|refine zH rfl rfl ?_)))
        exact zS rfl rfl .nil
end Go.Proofs.YtickblndgihoeaaGreatDoor

/- Layer 11: the document's layTemplate,layStart. -/
namespace Go.Proofs.YtickblndgihoeaaGreatDoor
open Go Go.Sp
theorem prm_get {p : Prm} {u : Nat} {z : Value} (hu : (yG p.ty)[u]? = some z) : (prmC p)[1 + u]? = some z ∧ 1 + u < 3 := by
  rcases u with _ | _ | u
  · exact ⟨hu,by decide⟩
  · exact ⟨hu,by decide⟩
  · simp at hu
theorem enc_1 : wF 1 = [1] := by unfold wF;rw [show (1 : Int).toNat = 1 from rfl,encU_lt (by decide)];rfl
theorem enc_0 : wF 0 = [0] := by unfold wF;rw [show (0 : Int).toNat = 0 from rfl,encU_lt (by decide)];rfl
theorem prm_bytes {p : Prm} {c : List UInt8} (h : prmO p = some c) : (p.ch = true ∧ ∃ eb,xB p.ty = some eb ∧ c = wF 1 ++ eb) ∨ (p.ch = false ∧ c = wF 0) := by
  obtain ⟨ch,e⟩ := p
  cases ch with
  | true =>
    rw [prmO_t] at h
    obtain ⟨a,eb,h1,h2,rfl⟩ := wO.1 h
    cases h1
    exact .inl ⟨rfl,eb,h2,by rw [enc_1];rfl⟩
  | false =>
    rw [prmO_f] at h
    obtain ⟨a,eb,h1,h2,rfl⟩ := wO.1 h
    cases h1
    obtain ⟨_,rfl⟩ := mustO_iff.1 h2
    exact .inr ⟨rfl,by rw [enc_0];rfl⟩
theorem ar_bytes {p : Ar} {c : List UInt8} (h : arO p = some c) : (p.ch = true ∧ (0 ≤ p.en ∧ p.en ≤ 31) ∧ c = wF 1 ++ wF p.en) ∨ (p.ch = false ∧ c = wF 0 ++ wE (tF p.word)) := by
  obtain ⟨ch,w,e⟩ := p
  cases ch with
  | true =>
    rw [arO_t] at h
    obtain ⟨a,_,h1,h2,rfl⟩ := wO.1 h
    obtain ⟨_,eb,h3,h4,rfl⟩ := wO.1 h2
    cases h1
    obtain ⟨_,rfl⟩ := mustO_iff.1 h3
    have g := numO_eq h4
    exact .inl ⟨rfl,⟨g.1,g.2.1⟩,by rw [enc_1,g.2.2];rfl⟩
  | false =>
    rw [arO_f] at h
    obtain ⟨a,_,h1,h2,rfl⟩ := wO.1 h
    obtain ⟨_,eb,h3,h4,rfl⟩ := wO.1 h2
    cases h1
    obtain ⟨_,rfl⟩ := mustO_iff.1 h3
    cases h4
    exact .inr ⟨rfl,by rw [enc_0];rfl⟩
theorem ins_bytes {y : YI} {c : List UInt8} (h : insO y = some c) : ∃ n : Nat,n ≤ 24 ∧ y.1.op = (n : Int) ∧ tA (zM n).1 y.1 ∧ c = uI (zM n) y.1 := by
  rcases chk_cases y.1 with h0 | ⟨n,h24,hn,hf,h0⟩
  · rw [insO_bad h0] at h;cases h
  · rw [insO_ok hn h0] at h
    cases h
    exact ⟨n,h24,hn,hf,rfl⟩
theorem mapO_lenB {α : Type} {o : α → OB} {b : Nat} : ∀ {l : List α} {r : List UInt8},vR o l = some r → (∀ x ∈ l,∀ c,o x = some c → c.length ≤ b) → r.length ≤ l.length * b
  | [],r,h,_ => by cases h;simp
  | x :: l,r,h,hc => by
    obtain ⟨a,c,h1,h2,rfl⟩ := wO.1 (show yY (o x) (vR o l) = some r from h)
    have k1 := hc x (List.mem_cons_self ..) a h1
    have k2 := mapO_lenB h2 fun y hy => hc y (List.mem_cons_of_mem _ hy)
    simp only [List.length_append,List.length_cons,Nat.succ_mul]
    omega
theorem mapO_code {code : List YI} {i : Nat} {r : List UInt8} (h : vR insO (code.take i) = some r) (hl : code.length ≤ 100000) (ha : ∀ y ∈ code,-9223372036854775808 ≤ y.1.a ∧ y.1.a ≤ 9223372036854775807) : r.length ≤ 100000000000 := by
  have h1 := mapO_lenB (b := 140) h fun y hy c hc => insO_len' (ha y (List.mem_of_mem_take hy)) hc
  have h3 : (code.take i).length * 140 ≤ 100000 * 140 := Nat.mul_le_mul (by rw [List.length_take];omega) (Nat.le_refl _)
  omega
theorem mapO_ar {args : List Ar} {i : Nat} {r : List UInt8} (h : vR arO (args.take i) = some r) (hl : args.length ≤ 100000) (ha : ∀ y ∈ args,arOk y) : r.length ≤ 100000000000 := by
  have h1 := mapO_lenB (b := 30) h fun y hy c hc => arO_len (ha y (List.mem_of_mem_take hy)) hc
  have h3 : (args.take i).length * 30 ≤ 100000 * 30 := Nat.mul_le_mul (by rw [List.length_take];omega) (Nat.le_refl _)
  omega
theorem app3 (a b c d : List UInt8) : ((a ++ b) ++ c) ++ d = a ++ (b ++ (c ++ d)) := by simp
attribute [local irreducible] callFunc Go.method J JL JO JR JR1 JRl Ct JG JM JM1 JW JW1 JQ JQ0 JS CtD yW ints by8 chkA uI zZ vY vC temO xS staO sec1O sec2O sec3O xT xB oneO xX prmO insO arO mayB wF
set_option maxHeartbeats 4000000 in
theorem dlayTemplate_c {t : Tem} {b : List UInt8} (h : temO t = some b) (hb1 : t.params.length ≤ 100000) (hb2 : t.code.length ≤ 100000) (hok : temOk t) : Ct Tryz.prog 26 #[.agg (wK t).toArray] [vW t] (wZ (str b) []) := by
  obtain ⟨u1,u2,h1,h2,rfl⟩ : ∃ u1 u2,xX 0 8 prmO t.params = some u1 ∧ xX 1 128 insO t.code = some u2 ∧ b = u1 ++ u2 := wO.1 (by unfold temO at h;exact h)
  obtain ⟨_,_,a1,pr,g1,hpr,rfl⟩ := listO_mem h1
  obtain ⟨_,_,a2,cr,g2,hcr,rfl⟩ := listO_mem h2
  obtain ⟨_,_,rfl⟩ := numO_eq g1
  obtain ⟨_,_,rfl⟩ := numO_eq g2
  have c1 := uW (t.params.length : Int) (by omega)
  have c2 := uW (t.code.length : Int) (by omega)
  have k1 := wQ (n := (t.params.length : Int)) (by omega)
  have k2 := wQ (n := (t.code.length : Int)) (by omega)
  have kp : pr.length ≤ 10000000000 := uQ (i := t.params.length) (b := 30) (l := t.params) (by rw [List.take_length];exact hpr) hb1 (by decide) fun x c => prmO_len
  obtain ⟨params,⟨pp,kpp⟩,code,⟨pc,kc⟩,wt,⟨pw,kw⟩⟩ := t
  dsimp only at *
  generalize wF (params.length : Int) = e1 at *
  generalize hde : (e1 ++ pr) ++ wF (code.length : Int) = hd2
  have hfin : e1 ++ pr ++ (wF (code.length : Int) ++ cr) = hd2 ++ cr := by rw [← hde];simp
  rw [hfin]
  have k3 : hd2.length ≤ 20000000000 := by rw [← hde];simp only [List.length_append];omega
  refine Ct.heap (ent_split (A := vW _) (M := [Vw 3 (slc (pp,kpp) params.length) params.length (params.flatMap prmC),Vw 6 (slc (pc,kc) code.length) code.length (code.flatMap vL),zZ tB code]) fun k hk => star_pers (temR_K _ k hk)) ?_
  rw [List.append_nil]
  refine yE (vs := [.agg [slc (pp,kpp) params.length,slc (pc,kc) code.length,slc (pw,kw) wt.length].toArray]) Tryz.func26 rfl Tryz.ntmps26 (by simp) ?_
  repeat (first|(first|refine zB ?_|refine zD ?_|refine zG ?_)|(first|((first|refine zA rfl ?_);first|refine zC rfl rfl ?_|refine yA rfl rfl ?_|refine zF rfl rfl ?_|refine zH rfl rfl ?_|refine yB rfl rfl (fun r => ?_))))
  revert r
  intro n1
  repeat (first|(first|refine zB ?_|refine zD ?_|refine zG ?_)|(first|((first|refine zA rfl ?_);first|refine zC rfl rfl ?_|refine zO rfl (c1) rfl ?_)))
  refine tM (α := Unit) (fun _ => [(1,ptr n1),(3,str (e1 ++ pr))]) (fun _ => [pt n1 (.cells [slc (pp,kpp) params.length,slc (pc,kc) code.length,slc (pw,kw) wt.length].toArray 50 (0,0)),Vw 3 (slc (pp,kpp) params.length) params.length (params.flatMap prmC),Vw 6 (slc (pc,kc) code.length) code.length (code.flatMap vL),zZ tB code]) ?_ ?_
  · repeat (first|(first|refine zI ?_)|(first|((first|refine zA rfl ?_);first|refine zE rfl rfl ?_)))
    refine xY (β := { z : Nat × List UInt8 // z.1 ≤ params.length ∧ vR prmO (params.take z.1) = some z.2 }) (fun z => [(1,ptr n1),(3,str (e1 ++ z.1.2)),(4,.int .i64 (z.1.1 : Int))]) (fun _ => []) (fun _ => [pt n1 (.cells [slc (pp,kpp) params.length,slc (pc,kc) code.length,slc (pw,kw) wt.length].toArray 50 (0,0)),Vw 3 (slc (pp,kpp) params.length) params.length (params.flatMap prmC),Vw 6 (slc (pc,kc) code.length) code.length (code.flatMap vL),zZ tB code]) (fun z => params.length - z.1.1) ⟨(0,[]),by simp,rfl⟩ ?_ rfl Ent.sel ?_
    · dsimp only
      rw [List.append_nil]
      (repeat (first|exact zN _|refine zJ rfl ?_))
    rintro ⟨⟨i,r⟩,hi,hr⟩
    dsimp only at hi hr ⊢
    by_cases hil : i < params.length
    · obtain ⟨x,hx⟩ : ∃ x,params[i]? = some x := ⟨_,List.getElem?_eq_getElem hil⟩
      have hxm := List.mem_of_getElem? hx
      obtain ⟨c,hc⟩ := mapO_mem hpr x hxm
      have hrl := uQ (b := 30) hr hb1 (by decide) (fun x c => prmO_len)
      have hcl := prmO_len hc
      refine wS (φ := ∃ b o,pp = some ⟨b,o,none⟩) (fun F w hs => (Ent.sel (K := [Vw 3 (slc (pp,kpp) params.length) params.length (params.flatMap prmC)]) F w hs).tail.out (fun k hk => wN (by omega) k hk)) (fun hp => ?_)
      obtain ⟨q1,o1,rfl⟩ := hp
      have hl1 := wQ (n := 1) (by omega)
      have hl0 := wQ (n := 0) (by omega)
      obtain ⟨ch,ty⟩ := x
      rcases prm_bytes hc with ⟨hch,eb,heb,rfl⟩ | ⟨hch,rfl⟩
      · dsimp only at hch heb
        subst hch
        have d1 := uW 1 (by decide)
        have d2 := dlayType_c heb
        have hle := wH heb
        repeat (first|(first|refine zB ?_|refine zD ?_|refine zG ?_|refine zI ?_|refine zP ?_|refine zL rfl ?_)|(first|((first|refine zA rfl ?_);first|refine JOq (yF rfl rfl (by omega)) rfl ?_|refine xM rfl rfl hil rfl ?_|refine wA rfl (lds_eq (xJ (u := .bool true) (b := q1) (o := o1) (n := params.length) (cap := kpp) (j := i) (i := 0) hil (by rw [xA prmC_len _ _ _ _ (by decide) hx];rfl)) rfl) rfl ?_|refine zE rfl rfl ?_|refine yA rfl rfl ?_|refine zF rfl rfl ?_|refine JO_field rfl rfl ?_|refine zH rfl rfl ?_)))
        repeat (first|refine J_regionG ?_|refine JG_fin rfl ?_|refine JG_n rfl rfl rfl (by kernel_rfl) (by kernel_rfl) rfl Ent.sel (by first|exact JQ_index rfl rfl hil|exact vS (app3 e1 r (wF 1) eb) rfl rfl (by (try simp only [List.length_append]);omega)|exact vG rfl rfl (by (try simp only [List.length_append]);omega)|exact wC (yG ty) rfl (fun u z hu => lds_eq (xJ (b := q1) (o := o1) (n := params.length) (cap := kpp) (j := i) (i := 1 + u) hil (by rw [xA prmC_len _ _ _ _ (prm_get (p := ⟨true,ty⟩) hu).2 hx];exact (prm_get (p := ⟨true,ty⟩) hu).1)) (by omega)) rfl|exact wX rfl|exact tJ rfl|exact uM rfl|exact vF rfl|exact JQ_field rfl) ?_|refine JG_jo rfl rfl rfl uU (zO rfl (d1) rfl ⟨Ent.sel,?_⟩)|refine JG_jo rfl rfl rfl uU (zO rfl (d2) rfl ⟨Ent.sel,?_⟩))
        repeat (first|(first|refine zB ?_|refine zD ?_)|(first|((first|refine zA rfl ?_);first|refine xD (b := 1) rfl rfl (by omega) rfl ?_|refine zE rfl rfl ?_|refine zC rfl rfl ?_)))
        exact ⟨⟨(i + 1,r ++ (wF 1 ++ eb)),by simp only;omega,uZ hx hr hc⟩,by simp only;omega,by (repeat (first|exact zN _|refine zJ rfl ?_)),rfl,Ent.sel⟩
      · dsimp only at hch
        subst hch
        have d0 := uW 0 (by decide)
        repeat (first|(first|refine zB ?_|refine zD ?_|refine zG ?_|refine zI ?_|refine zP ?_|refine zL rfl ?_|refine zK rfl ?_)|(first|((first|refine zA rfl ?_);first|refine JOq (yF rfl rfl (by omega)) rfl ?_|refine xM rfl rfl hil rfl ?_|refine wA rfl (lds_eq (xJ (u := .bool false) (b := q1) (o := o1) (n := params.length) (cap := kpp) (j := i) (i := 0) hil (by rw [xA prmC_len _ _ _ _ (by decide) hx];rfl)) rfl) rfl ?_|refine JOq (vS (List.append_assoc e1 r (wF 0)) rfl rfl (by (try simp only [List.length_append]);omega)) rfl ?_|refine xD (b := 1) rfl rfl (by omega) rfl ?_|refine zE rfl rfl ?_|refine zC rfl rfl ?_|refine yA rfl rfl ?_|refine zF rfl rfl ?_|refine JO_field rfl rfl ?_|refine zH rfl rfl ?_|refine zO rfl (d0) rfl ?_)))
        exact ⟨⟨(i + 1,r ++ wF 0),by simp only;omega,uZ hx hr hc⟩,by simp only;omega,by (repeat (first|exact zN _|refine zJ rfl ?_)),rfl,Ent.sel⟩
    · obtain rfl : i = params.length := by omega
      rw [List.take_length] at hr
      obtain rfl := Option.some.inj (hr.symm.trans hpr)
      repeat (first|(first|refine zB ?_|refine zD ?_|refine zG ?_|refine zK rfl ?_|refine xN ?_)|(first|((first|refine zA rfl ?_);first|refine JOq (yO rfl rfl (by omega)) rfl ?_|refine zE rfl rfl ?_|refine yA rfl rfl ?_|refine zF rfl rfl ?_|refine zH rfl rfl ?_)))
      exact ⟨(),by (repeat (first|exact zN _|refine zJ rfl ?_)),rfl,Ent.sel⟩
  rintro ⟨⟩
  dsimp only [thn]
  repeat (first|(first|refine zB ?_|refine zD ?_|refine zG ?_|refine zI ?_)|(first|((first|refine zA rfl ?_);first|refine JOq (vS hde rfl rfl (by (try simp only [List.length_append]);omega)) rfl ?_|refine zE rfl rfl ?_|refine zC rfl rfl ?_|refine yA rfl rfl ?_|refine zF rfl rfl ?_|refine zH rfl rfl ?_|refine zO rfl (c2) rfl ?_)))
  refine xY (β := { z : Nat × List UInt8 // z.1 ≤ code.length ∧ vR insO (code.take z.1) = some z.2 }) (fun z => [(1,ptr n1),(3,str (hd2 ++ z.1.2)),(5,.int .i64 (z.1.1 : Int))]) (fun _ => []) (fun _ => [pt n1 (.cells [slc (pp,kpp) params.length,slc (pc,kc) code.length,slc (pw,kw) wt.length].toArray 50 (0,0)),Vw 3 (slc (pp,kpp) params.length) params.length (params.flatMap prmC),Vw 6 (slc (pc,kc) code.length) code.length (code.flatMap vL),zZ tB code]) (fun z => code.length - z.1.1) ⟨(0,[]),by simp,rfl⟩ ?_ rfl Ent.sel ?_
  · dsimp only
    rw [List.append_nil]
    (repeat (first|exact zN _|refine zJ rfl ?_))
  rintro ⟨⟨i,r⟩,hi,hr⟩
  dsimp only at hi hr ⊢
  by_cases hil : i < code.length
  · obtain ⟨x,hx⟩ : ∃ x,code[i]? = some x := ⟨_,List.getElem?_eq_getElem hil⟩
    have hxm := List.mem_of_getElem? hx
    obtain ⟨c,hc⟩ := mapO_mem hcr x hxm
    have hrl : r.length ≤ 100000000000 := mapO_code hr hb2 hok
    obtain ⟨x,⟨py,ky⟩⟩ := x
    refine J_all tB code (x,py,ky) pers_insR hxm ?_
    refine vH (tB (x,py,ky)) ?_
    refine wS (φ := x.l.length ≤ ky ∧ x.l.length ≤ 1000 ∧ -9223372036854775808 ≤ x.a ∧ x.a ≤ 9223372036854775807) (fun F w hs => hs.tail.out (fun k hk => hk.1)) (fun hrr => ?_)
    refine wJ (insR_row (x,py,ky)) ?_
    obtain ⟨n,h24,hn,hf,rfl⟩ := ins_bytes hc
    have hcl := (bytes_len h24 hn hf hrr.2.2).1
    have d := dbytes_ok x py ky hrr.1 hrr.2.1 hrr.2.2 hn h24 hf
    refine wS (φ := ∃ b o,pc = some ⟨b,o,none⟩) (fun F w hs => (Ent.sel (K := [Vw 6 (slc (pc,kc) code.length) code.length (code.flatMap vL)]) F w hs).tail.out (fun k hk => wN (by omega) k hk)) (fun hp => ?_)
    obtain ⟨q2,o2,rfl⟩ := hp
    repeat (first|(first|refine zB ?_|refine zD ?_|refine zG ?_|refine zI ?_|refine zP ?_|refine zL rfl ?_)|(first|((first|refine zA rfl ?_);first|refine JOq (yF rfl rfl (by omega)) rfl ?_|refine xM rfl rfl hil rfl ?_|refine JOq (wC (vL (x,py,ky)) rfl (fun u z hu => xJ (b := q2) (o := o2) (n := code.length) (cap := kc) (j := i) hil (by rw [xA insC_len _ _ _ _ (by have := (List.getElem?_eq_some_iff.1 hu).1;exact this) hx];exact hu)) rfl) rfl ?_|refine JOq (vS (List.append_assoc hd2 r _) rfl rfl (by (try simp only [List.length_append]);dsimp only at hcl;omega)) rfl ?_|refine xD (b := 1) rfl rfl (by omega) rfl ?_|refine zE rfl rfl ?_|refine zC rfl rfl ?_|refine yA rfl rfl ?_|refine zF rfl rfl ?_|refine zH rfl rfl ?_|refine yJ rfl rfl rfl ?_|refine zO rfl (d) rfl ?_)))
    exact ⟨⟨(i + 1,r ++ uI (zM n) x),by simp only;omega,uZ hx hr hc⟩,by simp only;omega,by (repeat (first|exact zN _|refine zJ rfl ?_)),rfl,Ent.sel⟩
  · obtain rfl : i = code.length := by omega
    rw [List.take_length] at hr
    obtain rfl := Option.some.inj (hr.symm.trans hcr)
    repeat (first|(first|refine zB ?_|refine zD ?_|refine zG ?_|refine zK rfl ?_|refine xN ?_|refine zR ?_)|(first|((first|refine zA rfl ?_);first|refine JOq (yO rfl rfl (by omega)) rfl ?_|refine zE rfl rfl ?_|refine zC rfl rfl ?_|refine yA rfl rfl ?_|refine zF rfl rfl ?_|refine zH rfl rfl ?_)))
    exact zS rfl rfl .nil
set_option maxHeartbeats 4000000 in
theorem dlayStart_c {s : Sta} {b : List UInt8} (h : staO s = some b) (hw : ∀ p ∈ s.args,arOk p) (hb1 : s.args.length ≤ 100000) : Ct Tryz.prog 28 #[.agg (vE s).toArray] [StaR s] (wZ (str b) []) := by
  obtain ⟨a0,u1,g0,h1,rfl⟩ : ∃ u1 u2,xT s.tm 15 = some u1 ∧ xX 0 8 arO s.args = some u2 ∧ b = u1 ++ u2 := wO.1 (by unfold staO at h;exact h)
  obtain ⟨_,_,a1,pr,g1,hpr,rfl⟩ := listO_mem h1
  obtain ⟨t0,t1,rfl⟩ := numO_eq g0
  obtain ⟨_,_,rfl⟩ := numO_eq g1
  have c0 := uW s.tm (by omega)
  have c1 := uW (s.args.length : Int) (by omega)
  have k0 := wQ (n := s.tm) (by omega)
  have k1 := wQ (n := (s.args.length : Int)) (by omega)
  obtain ⟨tm,args,⟨pa,ka⟩⟩ := s
  dsimp only at *
  generalize hde : wF tm ++ wF (args.length : Int) = hd
  rw [← List.append_assoc,hde]
  have kh : hd.length ≤ 20 := by rw [← hde,List.length_append];omega
  refine yE (vs := [.agg [.int .i64 tm,slc (pa,ka) args.length].toArray]) Tryz.func28 rfl Tryz.ntmps28 (by simp) ?_
  repeat (first|(first|refine zB ?_|refine zD ?_|refine zG ?_)|(first|((first|refine zA rfl ?_);first|refine zC rfl rfl ?_|refine yB rfl rfl (fun r => ?_))))
  revert r
  intro n1
  repeat (first|refine J_regionG ?_|refine JG_fin rfl ?_|refine JG_n rfl rfl rfl (by kernel_rfl) (by kernel_rfl) rfl Ent.sel (by first|exact vS hde rfl rfl (by (try simp only [List.length_append]);omega)|exact uV rfl (xV rfl)|exact tJ rfl|exact vF rfl|exact JQ_len rfl) ?_|refine JG_jo rfl rfl rfl uU (zO rfl (c0) rfl ⟨Ent.sel,?_⟩)|refine JG_jo rfl rfl rfl uU (zO rfl (c1) rfl ⟨Ent.sel,?_⟩))
  repeat (first|(first|refine zB ?_|refine zD ?_|refine zG ?_|refine zI ?_)|(first|((first|refine zA rfl ?_);first|refine zC rfl rfl ?_)))
  refine xY (β := { z : Nat × List UInt8 // z.1 ≤ args.length ∧ vR arO (args.take z.1) = some z.2 }) (fun z => [(1,ptr n1),(3,str (hd ++ z.1.2)),(4,.int .i64 (z.1.1 : Int))]) (fun _ => []) (fun _ => [pt n1 (.cells [.int .i64 tm,slc (pa,ka) args.length].toArray 67 (0,0)),Vw 3 (slc (pa,ka) args.length) args.length (args.flatMap arC)]) (fun z => args.length - z.1.1) ⟨(0,[]),by simp,rfl⟩ ?_ rfl Ent.sel ?_
  · dsimp only
    rw [List.append_nil]
    (repeat (first|exact zN _|refine zJ rfl ?_))
  rintro ⟨⟨i,r⟩,hi,hr⟩
  dsimp only at hi hr ⊢
  by_cases hil : i < args.length
  · obtain ⟨x,hx⟩ : ∃ x,args[i]? = some x := ⟨_,List.getElem?_eq_getElem hil⟩
    have hxm := List.mem_of_getElem? hx
    obtain ⟨c,hc⟩ := mapO_mem hpr x hxm
    have hrl := mapO_ar hr hb1 hw
    have hok := hw x hxm
    have hcl := arO_len hok hc
    refine wS (φ := ∃ b o,pa = some ⟨b,o,none⟩) (fun F w hs => (Ent.sel (K := [Vw 3 (slc (pa,ka) args.length) args.length (args.flatMap arC)]) F w hs).tail.out (fun k hk => wN (by omega) k hk)) (fun hp => ?_)
    obtain ⟨q1,o1,rfl⟩ := hp
    have hl1 := wQ (n := 1) (by omega)
    have hl0 := wQ (n := 0) (by omega)
    obtain ⟨ch,wd,en⟩ := x
    rcases ar_bytes hc with ⟨hch,hen,rfl⟩ | ⟨hch,rfl⟩
    · dsimp only at hch hen
      subst hch
      have d1 := uW 1 (by decide)
      have d2 := uW en (by omega)
      have hle := wQ (n := en) (by omega)
      repeat (first|(first|refine zB ?_|refine zD ?_|refine zG ?_|refine zI ?_|refine zP ?_|refine zL rfl ?_)|(first|((first|refine zA rfl ?_);first|refine JOq (yF rfl rfl (by omega)) rfl ?_|refine xM rfl rfl hil rfl ?_|refine wA rfl (lds_eq (xJ (u := .bool true) (b := q1) (o := o1) (n := args.length) (cap := ka) (j := i) (i := 0) hil (by rw [xA arC_len _ _ _ _ (by decide) hx];rfl)) rfl) rfl ?_|refine zE rfl rfl ?_|refine yA rfl rfl ?_|refine zF rfl rfl ?_|refine JO_field rfl rfl ?_|refine zH rfl rfl ?_)))
      repeat (first|refine J_regionG ?_|refine JG_fin rfl ?_|refine JG_n rfl rfl rfl (by kernel_rfl) (by kernel_rfl) rfl Ent.sel (by first|exact JQ_index rfl rfl hil|exact vS (app3 hd r (wF 1) (wF en)) rfl rfl (by (try simp only [List.length_append]);omega)|exact vG rfl rfl (by (try simp only [List.length_append]);omega)|exact uV rfl (xJ (u := .int .i64 en) (b := q1) (o := o1) (n := args.length) (cap := ka) (j := i) (i := 2) hil (by rw [xA arC_len _ _ _ _ (by decide) hx];rfl))|exact wX rfl|exact tJ rfl|exact uM rfl|exact vF rfl|exact JQ_field rfl) ?_|refine JG_jo rfl rfl rfl uU (zO rfl (d1) rfl ⟨Ent.sel,?_⟩)|refine JG_jo rfl rfl rfl uU (zO rfl (d2) rfl ⟨Ent.sel,?_⟩))
      repeat (first|(first|refine zB ?_|refine zD ?_)|(first|((first|refine zA rfl ?_);first|refine xD (b := 1) rfl rfl (by omega) rfl ?_|refine zE rfl rfl ?_|refine zC rfl rfl ?_)))
      exact ⟨⟨(i + 1,r ++ (wF 1 ++ wF en)),by simp only;omega,uZ hx hr hc⟩,by simp only;omega,by (repeat (first|exact zN _|refine zJ rfl ?_)),rfl,Ent.sel⟩
    · dsimp only at hch hok
      subst hch
      have d0 := uW 0 (by decide)
      have hfz := fold_lt hok
      have d1 := fold_c wd hok
      have d2 := bytes_c (tF wd) (by omega)
      have hle := wP (n := tF wd) (by omega)
      repeat (first|(first|refine zB ?_|refine zD ?_|refine zG ?_|refine zI ?_|refine zP ?_|refine zL rfl ?_|refine zK rfl ?_)|(first|((first|refine zA rfl ?_);first|refine JOq (yF rfl rfl (by omega)) rfl ?_|refine xM rfl rfl hil rfl ?_|refine wA rfl (lds_eq (xJ (u := .bool false) (b := q1) (o := o1) (n := args.length) (cap := ka) (j := i) (i := 0) hil (by rw [xA arC_len _ _ _ _ (by decide) hx];rfl)) rfl) rfl ?_|refine zE rfl rfl ?_|refine yA rfl rfl ?_|refine zF rfl rfl ?_|refine JO_field rfl rfl ?_|refine zH rfl rfl ?_)))
      repeat (first|refine J_regionG ?_|refine JG_fin rfl ?_|refine JG_n rfl rfl rfl (by kernel_rfl) (by kernel_rfl) rfl Ent.sel (by first|exact JQ_index rfl rfl hil|exact vS (app3 hd r (wF 0) (wE (tF wd))) rfl rfl (by (try simp only [List.length_append]);omega)|exact vG rfl rfl (by (try simp only [List.length_append]);omega)|exact uV rfl (xJ (u := .int .i64 wd) (b := q1) (o := o1) (n := args.length) (cap := ka) (j := i) (i := 1) hil (by rw [xA arC_len _ _ _ _ (by decide) hx];rfl))|exact wX rfl|exact tJ rfl|exact uM rfl|exact vF rfl|exact JQ_field rfl) ?_|refine JG_jo rfl rfl rfl uU (zO rfl (d0) rfl ⟨Ent.sel,?_⟩)|refine JG_jo rfl rfl rfl uU (zO rfl (d1) rfl ⟨Ent.sel,?_⟩)|refine JG_jo rfl rfl rfl uU (zO rfl (d2) rfl ⟨Ent.sel,?_⟩))
      repeat (first|(first|refine zB ?_|refine zD ?_)|(first|((first|refine zA rfl ?_);first|refine xD (b := 1) rfl rfl (by omega) rfl ?_|refine zE rfl rfl ?_|refine zC rfl rfl ?_)))
      exact ⟨⟨(i + 1,r ++ (wF 0 ++ wE (tF wd))),by simp only;omega,uZ hx hr hc⟩,by simp only;omega,by (repeat (first|exact zN _|refine zJ rfl ?_)),rfl,Ent.sel⟩
  · obtain rfl : i = args.length := by omega
    rw [List.take_length] at hr
    obtain rfl := Option.some.inj (hr.symm.trans hpr)
    repeat (first|(first|refine zB ?_|refine zD ?_|refine zG ?_|refine zK rfl ?_|refine xN ?_|refine zR ?_)|(first|((first|refine zA rfl ?_);first|refine JOq (yO rfl rfl (by omega)) rfl ?_|refine zE rfl rfl ?_|refine zC rfl rfl ?_|refine yA rfl rfl ?_|refine zF rfl rfl ?_|refine zH rfl rfl ?_)))
    exact zS rfl rfl .nil
end Go.Proofs.YtickblndgihoeaaGreatDoor

/- Layer 11: the document's Put;ModulePuts' walk. -/
namespace Go.Proofs.YtickblndgihoeaaGreatDoor
open Go Go.Sp
theorem mapO_nodes {l : List Nod} {i : Nat} {r : List UInt8} (h : vR xS (l.take i) = some r) (hl : l.length ≤ 100000) (ha : ∀ x ∈ l,x.next.length ≤ 100000) : r.length ≤ 1000000000000 := by
  have h1 := mapO_lenB (b := 2000100) h fun y hy c hc => by
    have := nodeO_len hc
    have h2 := uH (f := fun _ : Int × Int => 20) (b := 20) (l := y.next) (fun _ _ => Nat.le_refl _)
    have := ha y (List.mem_of_mem_take hy)
    unfold costN at *
    omega
  have h3 : (l.take i).length * 2000100 ≤ 100000 * 2000100 := Nat.mul_le_mul (by rw [List.length_take];omega) (Nat.le_refl _)
  omega
theorem mapO_temps {l : List Tem} {i : Nat} {r : List UInt8} (h : vR temO (l.take i) = some r) (hl : l.length ≤ 100000) (hok : ∀ x ∈ l,temOk x) (ha : ∀ x ∈ l,x.params.length ≤ 100000 ∧ x.code.length ≤ 100000) : r.length ≤ 100000000000000 := by
  have h1 := mapO_lenB (b := 13700020) h fun y hy c hc => by
    have := LeO.tem (hok y (List.mem_of_mem_take hy)) c hc
    have := ha y (List.mem_of_mem_take hy)
    omega
  have h3 : (l.take i).length * 13700020 ≤ 100000 * 13700020 := Nat.mul_le_mul (by rw [List.length_take];omega) (Nat.le_refl _)
  omega
theorem mapO_starts {l : List Sta} {i : Nat} {r : List UInt8} (h : vR staO (l.take i) = some r) (hl : l.length ≤ 100000) (hok : ∀ x ∈ l,∀ p ∈ x.args,arOk p) (ha : ∀ x ∈ l,x.args.length ≤ 100000) : r.length ≤ 1000000000000 := by
  have h1 := mapO_lenB (b := 3000030) h fun y hy c hc => by
    have := staO_len (hok y (List.mem_of_mem_take hy)) c hc
    have h2 := uH (f := fun _ : Ar => 30) (b := 30) (l := y.args) (fun _ _ => Nat.le_refl _)
    have := ha y (List.mem_of_mem_take hy)
    unfold costS at *
    omega
  have h3 : (l.take i).length * 3000030 ≤ 100000 * 3000030 := Nat.mul_le_mul (by rw [List.length_take];omega) (Nat.le_refl _)
  omega
attribute [local irreducible] callFunc Go.method J JL JO JR JR1 JRl Ct JG JM JM1 JW JW1 JQ JQ0 JS CtD yW ints by8 chkA uI zZ vY RawR vC temO xS staO sec1O sec2O sec3O xT xB oneO xX prmO insO arO mayB wF joinA uL
theorem dput_bad (m : Mdl) (hB : BndM m) (h : mayB m = false) : Ct Tryz.prog 10 #[.agg (tN m).toArray] [vY m] (wZ (.tuple #[str [],.int .i64 2]) []) := by
  have c := dmay_c m hB
  rw [h] at c
  refine yE (vs := [_]) Tryz.func10 rfl Tryz.ntmps10 (by simp) ?_
  repeat (first|(first|refine zB ?_|refine zD ?_|refine zG ?_|refine zL rfl ?_|refine zR ?_)|(first|((first|refine zA rfl ?_);first|refine zC rfl rfl ?_|refine zQ rfl (by rfl) rfl ?_|refine xF rfl rfl ?_|refine yB rfl rfl (fun r => ?_)|refine zO rfl (c) rfl ?_)))
  exact ret_twoV rfl rfl rfl .nil
set_option maxRecDepth 8000 in
set_option synthInstance.maxHeartbeats 400000 in
set_option synthInstance.maxSize 2000 in
set_option maxHeartbeats 8000000 in
theorem dput_ok (m : Mdl) (hB : BndM m) (hok : okM m) {x y z : List UInt8} (s1 : sec1O m = some x) (s2 : sec2O m = some y) (s3 : sec3O m = some z) (hl : x.length ≤ 65536 ∧ y.length ≤ 65536 ∧ z.length ≤ 65536) :
    Ct Tryz.prog 10 #[.agg (tN m).toArray] [vY m] (wZ (.tuple #[str (uL x y z),.int .i64 0]) []) := by
  have cmay := dmay_c m hB
  rw [show mayB m = true by unfold mayB;rw [s1,s2,s3];rfl] at cmay
  have cj := djoin_c x y z (by omega) (by omega) (by omega)
  have ej : joinA x y z = (uL x y z,0) := by unfold joinA;rw [if_pos hl]
  rw [ej] at cj
  obtain ⟨_,_,a1,r1,g1,m1,rfl⟩ := listO_mem (show xX 0 64 xS m.nodes = some x by unfold sec1O at s1;exact s1)
  obtain ⟨_,_,a2,r2,g2,m2,rfl⟩ := listO_mem (show xX 0 16 temO m.temps = some y by unfold sec2O at s2;exact s2)
  obtain ⟨zc,zs,hc,hs,rfl⟩ := wO.1 (show yY (xX 0 16 xB m.chans) (xX 0 8 staO m.starts) = some z by unfold sec3O at s3;exact s3)
  obtain ⟨_,_,a3,r3,g3,m3,rfl⟩ := listO_mem hc
  obtain ⟨_,_,a4,r4,g4,m4,rfl⟩ := listO_mem hs
  obtain ⟨_,_,rfl⟩ := numO_eq g1
  obtain ⟨_,_,rfl⟩ := numO_eq g2
  obtain ⟨_,_,rfl⟩ := numO_eq g3
  obtain ⟨_,_,rfl⟩ := numO_eq g4
  have d1 := uW (m.nodes.length : Int) (by omega)
  have d2 := uW (m.temps.length : Int) (by omega)
  have d3 := uW (m.chans.length : Int) (by omega)
  have d4 := uW (m.starts.length : Int) (by omega)
  have f1 := wQ (n := (m.nodes.length : Int)) (by omega)
  have f2 := wQ (n := (m.temps.length : Int)) (by omega)
  have f3 := wQ (n := (m.chans.length : Int)) (by omega)
  have f4 := wQ (n := (m.starts.length : Int)) (by omega)
  obtain ⟨ok1,ok2⟩ := hok
  obtain ⟨b1,b2,b3,b4⟩ := hB
  clear s1 s2 s3 hc hs g1 g2 g3 g4 ej
  obtain ⟨ns,⟨p1,k1⟩,ts,⟨p2,k2⟩,cs,⟨p3,k3⟩,ss,⟨p4,k4⟩,u1,u1a,u2,u2a,u3,u3a,u4,u4a⟩ := m
  dsimp only at *
  generalize he1 : wF (ns.length : Int) = e1 at *
  generalize he2 : wF (ts.length : Int) = e2 at *
  generalize he3 : wF (cs.length : Int) = e3 at *
  generalize he4 : wF (ss.length : Int) = e4 at *
  generalize hde : (e3 ++ r3) ++ e4 = e5
  have e5l : e5.length ≤ 70000 := by rw [← hde];simp only [List.length_append] at *;omega
  rw [show e3 ++ r3 ++ (e4 ++ r4) = e5 ++ r4 by rw [← hde];simp] at cj ⊢
  refine yE (vs := [.agg [slc (p1,k1) ns.length,slc (p2,k2) ts.length,slc (p3,k3) cs.length,slc (p4,k4) ss.length,slc u1a u1.length,slc u2a u2.length,slc u3a u3.length,slc u4a u4.length].toArray]) Tryz.func10 rfl Tryz.ntmps10 (by simp) ?_
  repeat (first|(first|refine zB ?_|refine zD ?_|refine zG ?_)|(first|((first|refine zA rfl ?_);first|refine zC rfl rfl ?_|refine zQ rfl (by rfl) rfl ?_|refine yB rfl rfl (fun r => ?_))))
  revert r
  intro n1
  refine uF (Ent.dup (vY ⟨ns,(p1,k1),ts,(p2,k2),cs,(p3,k3),ss,(p4,k4),u1,u1a,u2,u2a,u3,u3a,u4,u4a⟩)) ?_
  refine zA rfl (yD rfl cmay rfl ?_)
  refine uF ((Ent.sel (K := [vY ⟨ns,(p1,k1),ts,(p2,k2),cs,(p3,k3),ss,(p4,k4),u1,u1a,u2,u2a,u3,u3a,u4,u4a⟩,pt n1 (.cells [slc (p1,k1) ns.length,slc (p2,k2) ts.length,slc (p3,k3) cs.length,slc (p4,k4) ss.length,slc u1a u1.length,slc u2a u2.length,slc u3a u3.length,slc u4a u4.length].toArray 28 (0,0))])).trans (modR7 _)) ?_
  repeat (first|(first|refine zB ?_|refine zD ?_|refine zG ?_|refine zP ?_|refine zK rfl ?_)|(first|((first|refine zA rfl ?_);first|refine yA rfl rfl ?_|refine zF rfl rfl ?_|refine zH rfl rfl ?_|refine xF rfl rfl ?_|refine zX rfl (fun r => ?_))))
  revert r
  intro n4
  repeat (first|(first|refine zB ?_|refine zD ?_|refine zG ?_)|(first|((first|refine zA rfl ?_);first|refine JOq (yL 0 (j := 0) rfl rfl (by omega) rfl) rfl ?_|refine zC rfl rfl ?_|refine zW rfl rfl (by first | rfl | assumption) rfl ?_|refine zO rfl (d1) rfl ?_)))
  refine tM (α := Unit) (fun _ => [(1,ptr n1),(4,ptr n4)]) (fun _ => [pt n4 (.cells #[str (e1 ++ r1),str [],str []] 41 (0,0)),pt n1 (.cells [slc (p1,k1) ns.length,slc (p2,k2) ts.length,slc (p3,k3) cs.length,slc (p4,k4) ss.length,slc u1a u1.length,slc u2a u2.length,slc u3a u3.length,slc u4a u4.length].toArray 28 (0,0)),Vw 6 (slc (p1,k1) ns.length) ns.length (ns.flatMap wI),zZ wV ns,Vw 3 (slc (p2,k2) ts.length) ts.length (ts.flatMap wK),zZ vW ts,Vw 2 (slc (p3,k3) cs.length) cs.length (cs.flatMap yG),Vw 2 (slc (p4,k4) ss.length) ss.length (ss.flatMap vE),zZ tK ss]) ?_ ?_
  · repeat (first|(first|refine zI ?_)|(first|((first|refine zA rfl ?_);first|refine zE rfl rfl ?_)))
    refine xY (β := { z : Nat × List UInt8 // z.1 ≤ ns.length ∧ vR xS (ns.take z.1) = some z.2 }) (fun z => [(1,ptr n1),(4,ptr n4),(5,.int .i64 (z.1.1 : Int))]) (fun _ => []) (fun z => [pt n4 (.cells #[str (e1 ++ z.1.2),str [],str []] 41 (0,0)),pt n1 (.cells [slc (p1,k1) ns.length,slc (p2,k2) ts.length,slc (p3,k3) cs.length,slc (p4,k4) ss.length,slc u1a u1.length,slc u2a u2.length,slc u3a u3.length,slc u4a u4.length].toArray 28 (0,0)),Vw 6 (slc (p1,k1) ns.length) ns.length (ns.flatMap wI),zZ wV ns,Vw 3 (slc (p2,k2) ts.length) ts.length (ts.flatMap wK),zZ vW ts,Vw 2 (slc (p3,k3) cs.length) cs.length (cs.flatMap yG),Vw 2 (slc (p4,k4) ss.length) ss.length (ss.flatMap vE),zZ tK ss]) (fun z => ns.length - z.1.1) ⟨(0,[]),by simp,rfl⟩ ?_ rfl ?_ ?_
    · (repeat (first|exact zN _|refine zJ rfl ?_))
    · dsimp only
      rw [List.append_nil]
      exact Ent.sel
    rintro ⟨⟨i,r⟩,hi,hr⟩
    dsimp only at hi hr ⊢
    by_cases hil : i < ns.length
    · obtain ⟨x,hx⟩ : ∃ x,ns[i]? = some x := ⟨_,List.getElem?_eq_getElem hil⟩
      have hxm := List.mem_of_getElem? hx
      obtain ⟨c,hc⟩ := mapO_mem m1 x hxm
      have d := dlayNode_c hc (b1.2 x hxm)
      have hrl := mapO_nodes hr b1.1 b1.2
      have hcl := nodeO_len hc
      have hcc := uH (f := fun _ : Int × Int => 20) (b := 20) (l := x.next) (fun _ _ => Nat.le_refl _)
      have hcn := b1.2 x hxm
      unfold costN at hcl
      refine wS (φ := ∃ b o,p1 = some ⟨b,o,none⟩) (fun F w hs => (Ent.sel (K := [Vw 6 (slc (p1,k1) ns.length) ns.length (ns.flatMap wI)]) F w hs).tail.out (fun k hk => wN (by omega) k hk)) (fun hp => ?_)
      obtain ⟨q1,o1,rfl⟩ := hp
      refine J_all wV ns x pers_nodR hxm ?_
      repeat (first|(first|refine zB ?_|refine zD ?_|refine zG ?_|refine zI ?_|refine zP ?_|refine zL rfl ?_)|(first|((first|refine zA rfl ?_);first|refine JOq (yF rfl rfl (by omega)) rfl ?_|refine zE rfl rfl ?_|refine yA rfl rfl ?_|refine zF rfl rfl ?_|refine zH rfl rfl ?_)))
      refine tM (α := Unit) (fun _ => [(1,ptr n1),(4,ptr n4),(5,.int .i64 (i : Int))]) (fun _ => [pt n4 (.cells #[str (e1 ++ (r ++ c)),str [],str []] 41 (0,0)),pt n1 (.cells [slc (some ⟨q1,o1,none⟩,k1) ns.length,slc (p2,k2) ts.length,slc (p3,k3) cs.length,slc (p4,k4) ss.length,slc u1a u1.length,slc u2a u2.length,slc u3a u3.length,slc u4a u4.length].toArray 28 (0,0)),Vw 6 (slc (some ⟨q1,o1,none⟩,k1) ns.length) ns.length (ns.flatMap wI),zZ wV ns,Vw 3 (slc (p2,k2) ts.length) ts.length (ts.flatMap wK),zZ vW ts,Vw 2 (slc (p3,k3) cs.length) cs.length (cs.flatMap yG),Vw 2 (slc (p4,k4) ss.length) ss.length (ss.flatMap vE),zZ tK ss]) ?_ ?_
      · refine J_calm ?_
        refine J_regionM 10 [pt n4 (.cells #[str (e1 ++ r),str [],str []] 41 (0,0)),pt n1 (.cells [slc (some ⟨q1,o1,none⟩,k1) ns.length,slc (p2,k2) ts.length,slc (p3,k3) cs.length,slc (p4,k4) ss.length,slc u1a u1.length,slc u2a u2.length,slc u3a u3.length,slc u4a u4.length].toArray 28 (0,0)),Vw 6 (slc (some ⟨q1,o1,none⟩,k1) ns.length) ns.length (ns.flatMap wI),zZ wV ns,Vw 3 (slc (p2,k2) ts.length) ts.length (ts.flatMap wK),zZ vW ts,Vw 2 (slc (p3,k3) cs.length) cs.length (cs.flatMap yG),Vw 2 (slc (p4,k4) ss.length) ss.length (ss.flatMap vE),zZ tK ss] Ent.sel ?_
        (refine yZ 0 rfl rfl (by kernel_rfl) (by kernel_rfl) (by kernel_rfl) rfl rfl rfl rfl Ent.sel (by first|exact yL 0 (j := 0) rfl rfl (by omega) rfl) ?_;refine yZ 1 rfl rfl (by kernel_rfl) (by kernel_rfl) (by kernel_rfl) rfl rfl rfl rfl Ent.sel (by first|exact uV rfl (xV rfl)) ?_;refine yZ 2 rfl rfl (by kernel_rfl) (by kernel_rfl) (by kernel_rfl) rfl rfl rfl rfl Ent.sel (by first|exact vF rfl) ?_;refine yZ 3 rfl rfl (by kernel_rfl) (by kernel_rfl) (by kernel_rfl) rfl rfl rfl rfl Ent.sel (by first|exact uV rfl (xV rfl)) ?_;refine yZ 4 rfl rfl (by kernel_rfl) (by kernel_rfl) (by kernel_rfl) rfl rfl rfl rfl Ent.sel (by first|exact wX rfl) ?_;refine yZ 5 rfl rfl (by kernel_rfl) (by kernel_rfl) (by kernel_rfl) rfl rfl rfl rfl Ent.sel (by first|exact JQ_index rfl rfl hil) ?_;refine yZ 6 rfl rfl (by kernel_rfl) (by kernel_rfl) (by kernel_rfl) rfl rfl rfl rfl Ent.sel (by first|exact wC (wI x) rfl (fun u z hu => xJ (b := q1) (o := o1) (n := ns.length) (cap := k1) (j := i) hil (by rw [xA nodC_len _ _ _ _ (by have := (List.getElem?_eq_some_iff.1 hu).1;exact this) hx];exact hu)) rfl) ?_)
        repeat' (first|refine JM_fin rfl ?_|refine JM_only rfl ?_|refine vM rfl rfl (by first|exact tame2_call|exact yH wL|exact yH (fun _ _ _ _ h => .inr (yS _ _ _ _ h))) (yD rfl d rfl ⟨by first|exact (fun _ => Ent.sel),?_⟩)|refine vM rfl rfl (by first|exact yH wL|exact yH (fun _ _ _ _ h => .inr (yS _ _ _ _ h))) (JOq (vS (List.append_assoc e1 r c) rfl rfl (by (try simp only [List.length_append]);omega)) rfl ⟨by first|exact (fun h => absurd h (by decide))|exact (fun _ => Ent.sel),?_⟩)|refine vM rfl rfl (by first|exact yH wL|exact yH (fun _ _ _ _ h => .inr (yS _ _ _ _ h))) (JOq (yL 0 (j := 0) rfl rfl (by omega) rfl) rfl ⟨by first|exact (fun _ => Ent.sel),?_⟩)|refine vM rfl rfl (by first|exact yH wL) (zW rfl rfl (by first | rfl | assumption) rfl ⟨by first|exact (fun h => absurd h (by decide))|exact (fun _ => Ent.nil),?_⟩))
        all_goals exact ⟨(),by (repeat (first|exact zN _|refine zJ rfl ?_)),rfl,Ent.sel⟩
      rintro ⟨⟩
      dsimp only [inB,thn]
      repeat (first|(first|refine zB ?_|refine zD ?_)|(first|((first|refine zA rfl ?_);first|refine xD (b := 1) rfl rfl (by omega) rfl ?_|refine zE rfl rfl ?_|refine zC rfl rfl ?_)))
      exact ⟨⟨(i + 1,r ++ c),by simp only;omega,uZ hx hr hc⟩,by simp only;omega,by (repeat (first|exact zN _|refine zJ rfl ?_)),rfl,Ent.sel⟩
    · obtain rfl : i = ns.length := by omega
      rw [List.take_length] at hr
      obtain rfl := Option.some.inj (hr.symm.trans m1)
      repeat (first|(first|refine zB ?_|refine zD ?_|refine zG ?_|refine zK rfl ?_|refine xN ?_)|(first|((first|refine zA rfl ?_);first|refine JOq (yO rfl rfl (by omega)) rfl ?_|refine zE rfl rfl ?_|refine yA rfl rfl ?_|refine zF rfl rfl ?_|refine zH rfl rfl ?_)))
      exact ⟨(),by (repeat (first|exact zN _|refine zJ rfl ?_)),rfl,Ent.sel⟩
  rintro ⟨⟩
  dsimp only [thn]
  repeat (first|(first|refine zB ?_|refine zD ?_|refine zG ?_)|(first|((first|refine zA rfl ?_);first|refine JOq (yL 1 (j := 1) rfl rfl (by omega) rfl) rfl ?_|refine zC rfl rfl ?_|refine yA rfl rfl ?_|refine zF rfl rfl ?_|refine zH rfl rfl ?_|refine zW rfl rfl (by first | rfl | assumption) rfl ?_|refine zO rfl (d2) rfl ?_)))
  refine tM (α := Unit) (fun _ => [(1,ptr n1),(4,ptr n4)]) (fun _ => [pt n4 (.cells #[str (e1 ++ r1),str (e2 ++ r2),str []] 41 (0,0)),pt n1 (.cells [slc (p1,k1) ns.length,slc (p2,k2) ts.length,slc (p3,k3) cs.length,slc (p4,k4) ss.length,slc u1a u1.length,slc u2a u2.length,slc u3a u3.length,slc u4a u4.length].toArray 28 (0,0)),Vw 6 (slc (p1,k1) ns.length) ns.length (ns.flatMap wI),zZ wV ns,Vw 3 (slc (p2,k2) ts.length) ts.length (ts.flatMap wK),zZ vW ts,Vw 2 (slc (p3,k3) cs.length) cs.length (cs.flatMap yG),Vw 2 (slc (p4,k4) ss.length) ss.length (ss.flatMap vE),zZ tK ss]) ?_ ?_
  · repeat (first|(first|refine zI ?_)|(first|((first|refine zA rfl ?_);first|refine zE rfl rfl ?_)))
    refine xY (β := { z : Nat × List UInt8 // z.1 ≤ ts.length ∧ vR temO (ts.take z.1) = some z.2 }) (fun z => [(1,ptr n1),(4,ptr n4),(6,.int .i64 (z.1.1 : Int))]) (fun _ => []) (fun z => [pt n4 (.cells #[str (e1 ++ r1),str (e2 ++ z.1.2),str []] 41 (0,0)),pt n1 (.cells [slc (p1,k1) ns.length,slc (p2,k2) ts.length,slc (p3,k3) cs.length,slc (p4,k4) ss.length,slc u1a u1.length,slc u2a u2.length,slc u3a u3.length,slc u4a u4.length].toArray 28 (0,0)),Vw 6 (slc (p1,k1) ns.length) ns.length (ns.flatMap wI),zZ wV ns,Vw 3 (slc (p2,k2) ts.length) ts.length (ts.flatMap wK),zZ vW ts,Vw 2 (slc (p3,k3) cs.length) cs.length (cs.flatMap yG),Vw 2 (slc (p4,k4) ss.length) ss.length (ss.flatMap vE),zZ tK ss]) (fun z => ts.length - z.1.1) ⟨(0,[]),by simp,rfl⟩ ?_ rfl ?_ ?_
    · (repeat (first|exact zN _|refine zJ rfl ?_))
    · dsimp only
      rw [List.append_nil]
      exact Ent.sel
    rintro ⟨⟨i,r⟩,hi,hr⟩
    dsimp only at hi hr ⊢
    by_cases hil : i < ts.length
    · obtain ⟨x,hx⟩ : ∃ x,ts[i]? = some x := ⟨_,List.getElem?_eq_getElem hil⟩
      have hxm := List.mem_of_getElem? hx
      obtain ⟨c,hc⟩ := mapO_mem m2 x hxm
      have d := dlayTemplate_c hc (b2.2 x hxm).1 (b2.2 x hxm).2 (ok1 x hxm)
      have hrl := mapO_temps hr b2.1 ok1 b2.2
      have hcl := LeO.tem (ok1 x hxm) c hc
      have hcn := b2.2 x hxm
      refine wS (φ := ∃ b o,p2 = some ⟨b,o,none⟩) (fun F w hs => (Ent.sel (K := [Vw 3 (slc (p2,k2) ts.length) ts.length (ts.flatMap wK)]) F w hs).tail.out (fun k hk => wN (by omega) k hk)) (fun hp => ?_)
      obtain ⟨q1,o1,rfl⟩ := hp
      refine J_all vW ts x pers_temR hxm ?_
      repeat (first|(first|refine zB ?_|refine zD ?_|refine zG ?_|refine zI ?_|refine zP ?_|refine zL rfl ?_)|(first|((first|refine zA rfl ?_);first|refine JOq (yF rfl rfl (by omega)) rfl ?_|refine zE rfl rfl ?_|refine yA rfl rfl ?_|refine zF rfl rfl ?_|refine zH rfl rfl ?_)))
      refine tM (α := Unit) (fun _ => [(1,ptr n1),(4,ptr n4),(6,.int .i64 (i : Int))]) (fun _ => [pt n4 (.cells #[str (e1 ++ r1),str (e2 ++ (r ++ c)),str []] 41 (0,0)),pt n1 (.cells [slc (p1,k1) ns.length,slc (some ⟨q1,o1,none⟩,k2) ts.length,slc (p3,k3) cs.length,slc (p4,k4) ss.length,slc u1a u1.length,slc u2a u2.length,slc u3a u3.length,slc u4a u4.length].toArray 28 (0,0)),Vw 6 (slc (p1,k1) ns.length) ns.length (ns.flatMap wI),zZ wV ns,Vw 3 (slc (some ⟨q1,o1,none⟩,k2) ts.length) ts.length (ts.flatMap wK),zZ vW ts,Vw 2 (slc (p3,k3) cs.length) cs.length (cs.flatMap yG),Vw 2 (slc (p4,k4) ss.length) ss.length (ss.flatMap vE),zZ tK ss]) ?_ ?_
      · refine J_calm ?_
        refine J_regionM 10 [pt n4 (.cells #[str (e1 ++ r1),str (e2 ++ r),str []] 41 (0,0)),pt n1 (.cells [slc (p1,k1) ns.length,slc (some ⟨q1,o1,none⟩,k2) ts.length,slc (p3,k3) cs.length,slc (p4,k4) ss.length,slc u1a u1.length,slc u2a u2.length,slc u3a u3.length,slc u4a u4.length].toArray 28 (0,0)),Vw 6 (slc (p1,k1) ns.length) ns.length (ns.flatMap wI),zZ wV ns,Vw 3 (slc (some ⟨q1,o1,none⟩,k2) ts.length) ts.length (ts.flatMap wK),zZ vW ts,Vw 2 (slc (p3,k3) cs.length) cs.length (cs.flatMap yG),Vw 2 (slc (p4,k4) ss.length) ss.length (ss.flatMap vE),zZ tK ss] Ent.sel ?_
        (refine yZ 0 rfl rfl (by kernel_rfl) (by kernel_rfl) (by kernel_rfl) rfl rfl rfl rfl Ent.sel (by first|exact yL 1 (j := 1) rfl rfl (by omega) rfl) ?_;refine yZ 1 rfl rfl (by kernel_rfl) (by kernel_rfl) (by kernel_rfl) rfl rfl rfl rfl Ent.sel (by first|exact uV rfl (xV rfl)) ?_;refine yZ 2 rfl rfl (by kernel_rfl) (by kernel_rfl) (by kernel_rfl) rfl rfl rfl rfl Ent.sel (by first|exact vF rfl) ?_;refine yZ 3 rfl rfl (by kernel_rfl) (by kernel_rfl) (by kernel_rfl) rfl rfl rfl rfl Ent.sel (by first|exact uV rfl (xV rfl)) ?_;refine yZ 4 rfl rfl (by kernel_rfl) (by kernel_rfl) (by kernel_rfl) rfl rfl rfl rfl Ent.sel (by first|exact wX rfl) ?_;refine yZ 5 rfl rfl (by kernel_rfl) (by kernel_rfl) (by kernel_rfl) rfl rfl rfl rfl Ent.sel (by first|exact JQ_index rfl rfl hil) ?_;refine yZ 6 rfl rfl (by kernel_rfl) (by kernel_rfl) (by kernel_rfl) rfl rfl rfl rfl Ent.sel (by first|exact wC (wK x) rfl (fun u z hu => xJ (b := q1) (o := o1) (n := ts.length) (cap := k2) (j := i) hil (by rw [xA temC_len _ _ _ _ (by have := (List.getElem?_eq_some_iff.1 hu).1;exact this) hx];exact hu)) rfl) ?_)
        repeat' (first|refine JM_fin rfl ?_|refine JM_only rfl ?_|refine vM rfl rfl (by first|exact tame2_call|exact yH wL|exact yH (fun _ _ _ _ h => .inr (yS _ _ _ _ h))) (yD rfl d rfl ⟨by first|exact (fun _ => Ent.sel),?_⟩)|refine vM rfl rfl (by first|exact yH wL|exact yH (fun _ _ _ _ h => .inr (yS _ _ _ _ h))) (JOq (vS (List.append_assoc e2 r c) rfl rfl (by (try simp only [List.length_append]);omega)) rfl ⟨by first|exact (fun h => absurd h (by decide))|exact (fun _ => Ent.sel),?_⟩)|refine vM rfl rfl (by first|exact yH wL|exact yH (fun _ _ _ _ h => .inr (yS _ _ _ _ h))) (JOq (yL 1 (j := 1) rfl rfl (by omega) rfl) rfl ⟨by first|exact (fun _ => Ent.sel),?_⟩)|refine vM rfl rfl (by first|exact yH wL) (zW rfl rfl (by first | rfl | assumption) rfl ⟨by first|exact (fun h => absurd h (by decide))|exact (fun _ => Ent.nil),?_⟩))
        all_goals exact ⟨(),by (repeat (first|exact zN _|refine zJ rfl ?_)),rfl,Ent.sel⟩
      rintro ⟨⟩
      dsimp only [inB,thn]
      repeat (first|(first|refine zB ?_|refine zD ?_)|(first|((first|refine zA rfl ?_);first|refine xD (b := 1) rfl rfl (by omega) rfl ?_|refine zE rfl rfl ?_|refine zC rfl rfl ?_)))
      exact ⟨⟨(i + 1,r ++ c),by simp only;omega,uZ hx hr hc⟩,by simp only;omega,by (repeat (first|exact zN _|refine zJ rfl ?_)),rfl,Ent.sel⟩
    · obtain rfl : i = ts.length := by omega
      rw [List.take_length] at hr
      obtain rfl := Option.some.inj (hr.symm.trans m2)
      repeat (first|(first|refine zB ?_|refine zD ?_|refine zG ?_|refine zK rfl ?_|refine xN ?_)|(first|((first|refine zA rfl ?_);first|refine JOq (yO rfl rfl (by omega)) rfl ?_|refine zE rfl rfl ?_|refine yA rfl rfl ?_|refine zF rfl rfl ?_|refine zH rfl rfl ?_)))
      exact ⟨(),by (repeat (first|exact zN _|refine zJ rfl ?_)),rfl,Ent.sel⟩
  rintro ⟨⟩
  dsimp only [thn]
  repeat (first|(first|refine zB ?_|refine zD ?_|refine zG ?_)|(first|((first|refine zA rfl ?_);first|refine JOq (yL 2 (j := 2) rfl rfl (by omega) rfl) rfl ?_|refine zC rfl rfl ?_|refine yA rfl rfl ?_|refine zF rfl rfl ?_|refine zH rfl rfl ?_|refine zW rfl rfl (by first | rfl | assumption) rfl ?_|refine zO rfl (d3) rfl ?_)))
  refine tM (α := Unit) (fun _ => [(1,ptr n1),(4,ptr n4)]) (fun _ => [pt n4 (.cells #[str (e1 ++ r1),str (e2 ++ r2),str (e3 ++ r3)] 41 (0,0)),pt n1 (.cells [slc (p1,k1) ns.length,slc (p2,k2) ts.length,slc (p3,k3) cs.length,slc (p4,k4) ss.length,slc u1a u1.length,slc u2a u2.length,slc u3a u3.length,slc u4a u4.length].toArray 28 (0,0)),Vw 6 (slc (p1,k1) ns.length) ns.length (ns.flatMap wI),zZ wV ns,Vw 3 (slc (p2,k2) ts.length) ts.length (ts.flatMap wK),zZ vW ts,Vw 2 (slc (p3,k3) cs.length) cs.length (cs.flatMap yG),Vw 2 (slc (p4,k4) ss.length) ss.length (ss.flatMap vE),zZ tK ss]) ?_ ?_
  · repeat (first|(first|refine zI ?_)|(first|((first|refine zA rfl ?_);first|refine zE rfl rfl ?_)))
    refine xY (β := { z : Nat × List UInt8 // z.1 ≤ cs.length ∧ vR xB (cs.take z.1) = some z.2 }) (fun z => [(1,ptr n1),(4,ptr n4),(7,.int .i64 (z.1.1 : Int))]) (fun _ => []) (fun z => [pt n4 (.cells #[str (e1 ++ r1),str (e2 ++ r2),str (e3 ++ z.1.2)] 41 (0,0)),pt n1 (.cells [slc (p1,k1) ns.length,slc (p2,k2) ts.length,slc (p3,k3) cs.length,slc (p4,k4) ss.length,slc u1a u1.length,slc u2a u2.length,slc u3a u3.length,slc u4a u4.length].toArray 28 (0,0)),Vw 6 (slc (p1,k1) ns.length) ns.length (ns.flatMap wI),zZ wV ns,Vw 3 (slc (p2,k2) ts.length) ts.length (ts.flatMap wK),zZ vW ts,Vw 2 (slc (p3,k3) cs.length) cs.length (cs.flatMap yG),Vw 2 (slc (p4,k4) ss.length) ss.length (ss.flatMap vE),zZ tK ss]) (fun z => cs.length - z.1.1) ⟨(0,[]),by simp,rfl⟩ ?_ rfl ?_ ?_
    · (repeat (first|exact zN _|refine zJ rfl ?_))
    · dsimp only
      rw [List.append_nil]
      exact Ent.sel
    rintro ⟨⟨i,r⟩,hi,hr⟩
    dsimp only at hi hr ⊢
    by_cases hil : i < cs.length
    · obtain ⟨x,hx⟩ : ∃ x,cs[i]? = some x := ⟨_,List.getElem?_eq_getElem hil⟩
      have hxm := List.mem_of_getElem? hx
      obtain ⟨c,hc⟩ := mapO_mem m3 x hxm
      have d := dlayType_c hc
      have hrl := uQ (b := 20) hr b3 (by decide) (fun x c => wH)
      have hcl := wH hc
      refine wS (φ := ∃ b o,p3 = some ⟨b,o,none⟩) (fun F w hs => (Ent.sel (K := [Vw 2 (slc (p3,k3) cs.length) cs.length (cs.flatMap yG)]) F w hs).tail.out (fun k hk => wN (by omega) k hk)) (fun hp => ?_)
      obtain ⟨q1,o1,rfl⟩ := hp
      repeat (first|(first|refine zB ?_|refine zD ?_|refine zG ?_|refine zI ?_|refine zP ?_|refine zL rfl ?_)|(first|((first|refine zA rfl ?_);first|refine JOq (yF rfl rfl (by omega)) rfl ?_|refine zE rfl rfl ?_|refine yA rfl rfl ?_|refine zF rfl rfl ?_|refine zH rfl rfl ?_)))
      refine tM (α := Unit) (fun _ => [(1,ptr n1),(4,ptr n4),(7,.int .i64 (i : Int))]) (fun _ => [pt n4 (.cells #[str (e1 ++ r1),str (e2 ++ r2),str (e3 ++ (r ++ c))] 41 (0,0)),pt n1 (.cells [slc (p1,k1) ns.length,slc (p2,k2) ts.length,slc (some ⟨q1,o1,none⟩,k3) cs.length,slc (p4,k4) ss.length,slc u1a u1.length,slc u2a u2.length,slc u3a u3.length,slc u4a u4.length].toArray 28 (0,0)),Vw 6 (slc (p1,k1) ns.length) ns.length (ns.flatMap wI),zZ wV ns,Vw 3 (slc (p2,k2) ts.length) ts.length (ts.flatMap wK),zZ vW ts,Vw 2 (slc (some ⟨q1,o1,none⟩,k3) cs.length) cs.length (cs.flatMap yG),Vw 2 (slc (p4,k4) ss.length) ss.length (ss.flatMap vE),zZ tK ss]) ?_ ?_
      · refine J_calm ?_
        refine J_regionM 10 [pt n4 (.cells #[str (e1 ++ r1),str (e2 ++ r2),str (e3 ++ r)] 41 (0,0)),pt n1 (.cells [slc (p1,k1) ns.length,slc (p2,k2) ts.length,slc (some ⟨q1,o1,none⟩,k3) cs.length,slc (p4,k4) ss.length,slc u1a u1.length,slc u2a u2.length,slc u3a u3.length,slc u4a u4.length].toArray 28 (0,0)),Vw 6 (slc (p1,k1) ns.length) ns.length (ns.flatMap wI),zZ wV ns,Vw 3 (slc (p2,k2) ts.length) ts.length (ts.flatMap wK),zZ vW ts,Vw 2 (slc (some ⟨q1,o1,none⟩,k3) cs.length) cs.length (cs.flatMap yG),Vw 2 (slc (p4,k4) ss.length) ss.length (ss.flatMap vE),zZ tK ss] Ent.sel ?_
        (refine yZ 0 rfl rfl (by kernel_rfl) (by kernel_rfl) (by kernel_rfl) rfl rfl rfl rfl Ent.sel (by first|exact yL 2 (j := 2) rfl rfl (by omega) rfl) ?_;refine yZ 1 rfl rfl (by kernel_rfl) (by kernel_rfl) (by kernel_rfl) rfl rfl rfl rfl Ent.sel (by first|exact uV rfl (xV rfl)) ?_;refine yZ 2 rfl rfl (by kernel_rfl) (by kernel_rfl) (by kernel_rfl) rfl rfl rfl rfl Ent.sel (by first|exact vF rfl) ?_;refine yZ 3 rfl rfl (by kernel_rfl) (by kernel_rfl) (by kernel_rfl) rfl rfl rfl rfl Ent.sel (by first|exact uV rfl (xV rfl)) ?_;refine yZ 4 rfl rfl (by kernel_rfl) (by kernel_rfl) (by kernel_rfl) rfl rfl rfl rfl Ent.sel (by first|exact wX rfl) ?_;refine yZ 5 rfl rfl (by kernel_rfl) (by kernel_rfl) (by kernel_rfl) rfl rfl rfl rfl Ent.sel (by first|exact JQ_index rfl rfl hil) ?_;refine yZ 6 rfl rfl (by kernel_rfl) (by kernel_rfl) (by kernel_rfl) rfl rfl rfl rfl Ent.sel (by first|exact wC (yG x) rfl (fun u z hu => xJ (b := q1) (o := o1) (n := cs.length) (cap := k3) (j := i) hil (by rw [xA edgeC_len _ _ _ _ (by have := (List.getElem?_eq_some_iff.1 hu).1;exact this) hx];exact hu)) rfl) ?_)
        repeat' (first|refine JM_fin rfl ?_|refine JM_only rfl ?_|refine vM rfl rfl (by first|exact tame2_call|exact yH wL|exact yH (fun _ _ _ _ h => .inr (yS _ _ _ _ h))) (yD rfl d rfl ⟨by first|exact (fun _ => Ent.sel),?_⟩)|refine vM rfl rfl (by first|exact yH wL|exact yH (fun _ _ _ _ h => .inr (yS _ _ _ _ h))) (JOq (vS (List.append_assoc e3 r c) rfl rfl (by (try simp only [List.length_append]);omega)) rfl ⟨by first|exact (fun h => absurd h (by decide))|exact (fun _ => Ent.sel),?_⟩)|refine vM rfl rfl (by first|exact yH wL|exact yH (fun _ _ _ _ h => .inr (yS _ _ _ _ h))) (JOq (yL 2 (j := 2) rfl rfl (by omega) rfl) rfl ⟨by first|exact (fun _ => Ent.sel),?_⟩)|refine vM rfl rfl (by first|exact yH wL) (zW rfl rfl (by first | rfl | assumption) rfl ⟨by first|exact (fun h => absurd h (by decide))|exact (fun _ => Ent.nil),?_⟩))
        all_goals exact ⟨(),by (repeat (first|exact zN _|refine zJ rfl ?_)),rfl,Ent.sel⟩
      rintro ⟨⟩
      dsimp only [inB,thn]
      repeat (first|(first|refine zB ?_|refine zD ?_)|(first|((first|refine zA rfl ?_);first|refine xD (b := 1) rfl rfl (by omega) rfl ?_|refine zE rfl rfl ?_|refine zC rfl rfl ?_)))
      exact ⟨⟨(i + 1,r ++ c),by simp only;omega,uZ hx hr hc⟩,by simp only;omega,by (repeat (first|exact zN _|refine zJ rfl ?_)),rfl,Ent.sel⟩
    · obtain rfl : i = cs.length := by omega
      rw [List.take_length] at hr
      obtain rfl := Option.some.inj (hr.symm.trans m3)
      repeat (first|(first|refine zB ?_|refine zD ?_|refine zG ?_|refine zK rfl ?_|refine xN ?_)|(first|((first|refine zA rfl ?_);first|refine JOq (yO rfl rfl (by omega)) rfl ?_|refine zE rfl rfl ?_|refine yA rfl rfl ?_|refine zF rfl rfl ?_|refine zH rfl rfl ?_)))
      exact ⟨(),by (repeat (first|exact zN _|refine zJ rfl ?_)),rfl,Ent.sel⟩
  rintro ⟨⟩
  dsimp only [thn]
  refine zG ?_
  refine tM (α := Unit) (fun _ => [(1,ptr n1),(4,ptr n4)]) (fun _ => [pt n4 (.cells #[str (e1 ++ r1),str (e2 ++ r2),str e5] 41 (0,0)),pt n1 (.cells [slc (p1,k1) ns.length,slc (p2,k2) ts.length,slc (p3,k3) cs.length,slc (p4,k4) ss.length,slc u1a u1.length,slc u2a u2.length,slc u3a u3.length,slc u4a u4.length].toArray 28 (0,0)),Vw 6 (slc (p1,k1) ns.length) ns.length (ns.flatMap wI),zZ wV ns,Vw 3 (slc (p2,k2) ts.length) ts.length (ts.flatMap wK),zZ vW ts,Vw 2 (slc (p3,k3) cs.length) cs.length (cs.flatMap yG),Vw 2 (slc (p4,k4) ss.length) ss.length (ss.flatMap vE),zZ tK ss]) ?_ ?_
  · have hr3 := uQ (o := xB) (i := cs.length) (b := 20) (l := cs) (r := r3) (by rw [List.take_length];exact m3) b3 (by decide) (fun x c => wH)
    refine J_calm ?_
    refine J_regionM 8 [pt n4 (.cells #[str (e1 ++ r1),str (e2 ++ r2),str (e3 ++ r3)] 41 (0,0)),pt n1 (.cells [slc (p1,k1) ns.length,slc (p2,k2) ts.length,slc (p3,k3) cs.length,slc (p4,k4) ss.length,slc u1a u1.length,slc u2a u2.length,slc u3a u3.length,slc u4a u4.length].toArray 28 (0,0)),Vw 6 (slc (p1,k1) ns.length) ns.length (ns.flatMap wI),zZ wV ns,Vw 3 (slc (p2,k2) ts.length) ts.length (ts.flatMap wK),zZ vW ts,Vw 2 (slc (p3,k3) cs.length) cs.length (cs.flatMap yG),Vw 2 (slc (p4,k4) ss.length) ss.length (ss.flatMap vE),zZ tK ss] Ent.sel ?_
    (refine yZ 0 rfl rfl (by kernel_rfl) (by kernel_rfl) (by kernel_rfl) rfl rfl rfl rfl Ent.sel (by first|exact yL 2 (j := 2) rfl rfl (by omega) rfl) ?_;refine yZ 1 rfl rfl (by kernel_rfl) (by kernel_rfl) (by kernel_rfl) rfl rfl rfl rfl Ent.sel (by first|exact uV rfl (xV rfl)) ?_;refine yZ 2 rfl rfl (by kernel_rfl) (by kernel_rfl) (by kernel_rfl) rfl rfl rfl rfl Ent.sel (by first|exact vF rfl) ?_;refine yZ 3 rfl rfl (by kernel_rfl) (by kernel_rfl) (by kernel_rfl) rfl rfl rfl rfl Ent.sel (by first|exact uV rfl (xV rfl)) ?_;refine yZ 4 rfl rfl (by kernel_rfl) (by kernel_rfl) (by kernel_rfl) rfl rfl rfl rfl Ent.sel (by first|exact JQ_len rfl) ?_)
    repeat' (first|refine JM_fin rfl ?_|refine JM_only rfl ?_|refine vM rfl rfl (by first|exact tame2_call|exact yH wL|exact yH (fun _ _ _ _ h => .inr (yS _ _ _ _ h))) (yD rfl d4 rfl ⟨by first|exact (fun _ => Ent.sel),?_⟩)|refine vM rfl rfl (by first|exact yH wL|exact yH (fun _ _ _ _ h => .inr (yS _ _ _ _ h))) (JOq (vS hde rfl rfl (by (try simp only [List.length_append]);omega)) rfl ⟨by first|exact (fun h => absurd h (by decide))|exact (fun _ => Ent.sel),?_⟩)|refine vM rfl rfl (by first|exact yH wL|exact yH (fun _ _ _ _ h => .inr (yS _ _ _ _ h))) (JOq (yL 2 (j := 2) rfl rfl (by omega) rfl) rfl ⟨by first|exact (fun _ => Ent.sel),?_⟩)|refine vM rfl rfl (by first|exact yH wL) (zW rfl rfl (by first | rfl | assumption) rfl ⟨by first|exact (fun h => absurd h (by decide))|exact (fun _ => Ent.nil),?_⟩))
    all_goals exact ⟨(),by (repeat (first|exact zN _|refine zJ rfl ?_)),rfl,Ent.sel⟩
  rintro ⟨⟩
  dsimp only [thn]
  repeat (first|(first|refine zB ?_|refine zD ?_|refine zG ?_)|(first|((first|refine zA rfl ?_);first|refine zC rfl rfl ?_)))
  refine tM (α := Unit) (fun _ => [(1,ptr n1),(4,ptr n4)]) (fun _ => [pt n4 (.cells #[str (e1 ++ r1),str (e2 ++ r2),str (e5 ++ r4)] 41 (0,0)),pt n1 (.cells [slc (p1,k1) ns.length,slc (p2,k2) ts.length,slc (p3,k3) cs.length,slc (p4,k4) ss.length,slc u1a u1.length,slc u2a u2.length,slc u3a u3.length,slc u4a u4.length].toArray 28 (0,0)),Vw 6 (slc (p1,k1) ns.length) ns.length (ns.flatMap wI),zZ wV ns,Vw 3 (slc (p2,k2) ts.length) ts.length (ts.flatMap wK),zZ vW ts,Vw 2 (slc (p3,k3) cs.length) cs.length (cs.flatMap yG),Vw 2 (slc (p4,k4) ss.length) ss.length (ss.flatMap vE),zZ tK ss]) ?_ ?_
  · repeat (first|(first|refine zI ?_)|(first|((first|refine zA rfl ?_);first|refine zE rfl rfl ?_)))
    refine xY (β := { z : Nat × List UInt8 // z.1 ≤ ss.length ∧ vR staO (ss.take z.1) = some z.2 }) (fun z => [(1,ptr n1),(4,ptr n4),(8,.int .i64 (z.1.1 : Int))]) (fun _ => []) (fun z => [pt n4 (.cells #[str (e1 ++ r1),str (e2 ++ r2),str (e5 ++ z.1.2)] 41 (0,0)),pt n1 (.cells [slc (p1,k1) ns.length,slc (p2,k2) ts.length,slc (p3,k3) cs.length,slc (p4,k4) ss.length,slc u1a u1.length,slc u2a u2.length,slc u3a u3.length,slc u4a u4.length].toArray 28 (0,0)),Vw 6 (slc (p1,k1) ns.length) ns.length (ns.flatMap wI),zZ wV ns,Vw 3 (slc (p2,k2) ts.length) ts.length (ts.flatMap wK),zZ vW ts,Vw 2 (slc (p3,k3) cs.length) cs.length (cs.flatMap yG),Vw 2 (slc (p4,k4) ss.length) ss.length (ss.flatMap vE),zZ tK ss]) (fun z => ss.length - z.1.1) ⟨(0,[]),by simp,rfl⟩ ?_ rfl ?_ ?_
    · (repeat (first|exact zN _|refine zJ rfl ?_))
    · dsimp only
      rw [List.append_nil]
      exact Ent.sel
    rintro ⟨⟨i,r⟩,hi,hr⟩
    dsimp only at hi hr ⊢
    by_cases hil : i < ss.length
    · obtain ⟨x,hx⟩ : ∃ x,ss[i]? = some x := ⟨_,List.getElem?_eq_getElem hil⟩
      have hxm := List.mem_of_getElem? hx
      obtain ⟨c,hc⟩ := mapO_mem m4 x hxm
      have d := dlayStart_c hc (ok2 x hxm) (b4.2 x hxm)
      have hrl := mapO_starts hr b4.1 ok2 b4.2
      have hcl := staO_len (ok2 x hxm) c hc
      have hcc := uH (f := fun _ : Ar => 30) (b := 30) (l := x.args) (fun _ _ => Nat.le_refl _)
      have hcn := b4.2 x hxm
      unfold costS at hcl
      refine wS (φ := ∃ b o,p4 = some ⟨b,o,none⟩) (fun F w hs => (Ent.sel (K := [Vw 2 (slc (p4,k4) ss.length) ss.length (ss.flatMap vE)]) F w hs).tail.out (fun k hk => wN (by omega) k hk)) (fun hp => ?_)
      obtain ⟨q1,o1,rfl⟩ := hp
      refine J_all tK ss x pers_staQ hxm ?_
      refine vH (tK x) ?_
      refine wJ staR_of ?_
      repeat (first|(first|refine zB ?_|refine zD ?_|refine zG ?_|refine zI ?_|refine zP ?_|refine zL rfl ?_)|(first|((first|refine zA rfl ?_);first|refine JOq (yF rfl rfl (by omega)) rfl ?_|refine zE rfl rfl ?_|refine yA rfl rfl ?_|refine zF rfl rfl ?_|refine zH rfl rfl ?_)))
      refine tM (α := Unit) (fun _ => [(1,ptr n1),(4,ptr n4),(8,.int .i64 (i : Int))]) (fun _ => [pt n4 (.cells #[str (e1 ++ r1),str (e2 ++ r2),str (e5 ++ (r ++ c))] 41 (0,0)),pt n1 (.cells [slc (p1,k1) ns.length,slc (p2,k2) ts.length,slc (p3,k3) cs.length,slc (some ⟨q1,o1,none⟩,k4) ss.length,slc u1a u1.length,slc u2a u2.length,slc u3a u3.length,slc u4a u4.length].toArray 28 (0,0)),Vw 6 (slc (p1,k1) ns.length) ns.length (ns.flatMap wI),zZ wV ns,Vw 3 (slc (p2,k2) ts.length) ts.length (ts.flatMap wK),zZ vW ts,Vw 2 (slc (p3,k3) cs.length) cs.length (cs.flatMap yG),Vw 2 (slc (some ⟨q1,o1,none⟩,k4) ss.length) ss.length (ss.flatMap vE),zZ tK ss]) ?_ ?_
      · refine J_calm ?_
        refine J_regionM 10 [pt n4 (.cells #[str (e1 ++ r1),str (e2 ++ r2),str (e5 ++ r)] 41 (0,0)),pt n1 (.cells [slc (p1,k1) ns.length,slc (p2,k2) ts.length,slc (p3,k3) cs.length,slc (some ⟨q1,o1,none⟩,k4) ss.length,slc u1a u1.length,slc u2a u2.length,slc u3a u3.length,slc u4a u4.length].toArray 28 (0,0)),Vw 6 (slc (p1,k1) ns.length) ns.length (ns.flatMap wI),zZ wV ns,Vw 3 (slc (p2,k2) ts.length) ts.length (ts.flatMap wK),zZ vW ts,Vw 2 (slc (p3,k3) cs.length) cs.length (cs.flatMap yG),Vw 2 (slc (some ⟨q1,o1,none⟩,k4) ss.length) ss.length (ss.flatMap vE),zZ tK ss] Ent.sel ?_
        (refine yZ 0 rfl rfl (by kernel_rfl) (by kernel_rfl) (by kernel_rfl) rfl rfl rfl rfl Ent.sel (by first|exact yL 2 (j := 2) rfl rfl (by omega) rfl) ?_;refine yZ 1 rfl rfl (by kernel_rfl) (by kernel_rfl) (by kernel_rfl) rfl rfl rfl rfl Ent.sel (by first|exact uV rfl (xV rfl)) ?_;refine yZ 2 rfl rfl (by kernel_rfl) (by kernel_rfl) (by kernel_rfl) rfl rfl rfl rfl Ent.sel (by first|exact vF rfl) ?_;refine yZ 3 rfl rfl (by kernel_rfl) (by kernel_rfl) (by kernel_rfl) rfl rfl rfl rfl Ent.sel (by first|exact uV rfl (xV rfl)) ?_;refine yZ 4 rfl rfl (by kernel_rfl) (by kernel_rfl) (by kernel_rfl) rfl rfl rfl rfl Ent.sel (by first|exact wX rfl) ?_;refine yZ 5 rfl rfl (by kernel_rfl) (by kernel_rfl) (by kernel_rfl) rfl rfl rfl rfl Ent.sel (by first|exact JQ_index rfl rfl hil) ?_;refine yZ 6 rfl rfl (by kernel_rfl) (by kernel_rfl) (by kernel_rfl) rfl rfl rfl rfl Ent.sel (by first|exact wC (vE x) rfl (fun u z hu => xJ (b := q1) (o := o1) (n := ss.length) (cap := k4) (j := i) hil (by rw [xA staC_len _ _ _ _ (by have := (List.getElem?_eq_some_iff.1 hu).1;exact this) hx];exact hu)) rfl) ?_)
        repeat' (first|refine JM_fin rfl ?_|refine JM_only rfl ?_|refine vM rfl rfl (by first|exact tame2_call|exact yH wL|exact yH (fun _ _ _ _ h => .inr (yS _ _ _ _ h))) (yD rfl d rfl ⟨by first|exact (fun _ => Ent.sel),?_⟩)|refine vM rfl rfl (by first|exact yH wL|exact yH (fun _ _ _ _ h => .inr (yS _ _ _ _ h))) (JOq (vS (List.append_assoc e5 r c) rfl rfl (by (try simp only [List.length_append]);omega)) rfl ⟨by first|exact (fun h => absurd h (by decide))|exact (fun _ => Ent.sel),?_⟩)|refine vM rfl rfl (by first|exact yH wL|exact yH (fun _ _ _ _ h => .inr (yS _ _ _ _ h))) (JOq (yL 2 (j := 2) rfl rfl (by omega) rfl) rfl ⟨by first|exact (fun _ => Ent.sel),?_⟩)|refine vM rfl rfl (by first|exact yH wL) (zW rfl rfl (by first | rfl | assumption) rfl ⟨by first|exact (fun h => absurd h (by decide))|exact (fun _ => Ent.nil),?_⟩))
        all_goals exact ⟨(),by (repeat (first|exact zN _|refine zJ rfl ?_)),rfl,Ent.sel⟩
      rintro ⟨⟩
      dsimp only [inB,thn]
      repeat (first|(first|refine zB ?_|refine zD ?_)|(first|((first|refine zA rfl ?_);first|refine xD (b := 1) rfl rfl (by omega) rfl ?_|refine zE rfl rfl ?_|refine zC rfl rfl ?_)))
      exact ⟨⟨(i + 1,r ++ c),by simp only;omega,uZ hx hr hc⟩,by simp only;omega,by (repeat (first|exact zN _|refine zJ rfl ?_)),rfl,Ent.sel⟩
    · obtain rfl : i = ss.length := by omega
      rw [List.take_length] at hr
      obtain rfl := Option.some.inj (hr.symm.trans m4)
      repeat (first|(first|refine zB ?_|refine zD ?_|refine zG ?_|refine zK rfl ?_|refine xN ?_)|(first|((first|refine zA rfl ?_);first|refine JOq (yO rfl rfl (by omega)) rfl ?_|refine zE rfl rfl ?_|refine yA rfl rfl ?_|refine zF rfl rfl ?_|refine zH rfl rfl ?_)))
      exact ⟨(),by (repeat (first|exact zN _|refine zJ rfl ?_)),rfl,Ent.sel⟩
  rintro ⟨⟩
  dsimp only [thn]
  repeat (first|(first|refine zB ?_|refine zD ?_|refine zG ?_|refine zR ?_)|(first|((first|refine zA rfl ?_);first|refine zQ rfl (by rfl) rfl ?_|refine zC rfl rfl ?_|refine zQ rfl (by rfl) rfl ?_|refine yJ rfl rfl rfl ?_|refine zO rfl (cj) rfl ?_)))
  exact ret_twoV rfl rfl rfl .nil
set_option maxHeartbeats 4000000 in
theorem modulePuts_c (m : Mdl) (hm : CapM m) (te : TypeId) (fz : Nat × Nat) : Ct Tryz.prog 3 #[.agg (tN m).toArray] [RawR m,Gl te fz] (wZ (.bool true) []) := by
  have hw := works11_c te fz
  have hf := few11_c m hm
  refine yE (vs := [_]) Tryz.func3 rfl Tryz.ntmps3 (by simp) ?_
  repeat (first|(first|refine zB ?_|refine zD ?_|refine zG ?_)|(first|((first|refine zA rfl ?_);first|refine yQ rfl hf rfl (fun a fa => ?_)|refine zT rfl rfl (by rfl) (by rfl) (by simp [Value.oneCell']) rfl ?_|refine zC rfl rfl ?_|refine zQ rfl (by rfl) rfl ?_|refine yB rfl rfl (fun r => ?_))))
  rcases put_few a fa with ⟨x,y,z,h1,h2,h3,hl,pa⟩ | ⟨hn,pa⟩
  · have pd := dput_ok a (bnd_few fa) (ok_few fa) h1 h2 h3 hl
    repeat (first|(first|refine zB ?_|refine zD ?_|refine zG ?_|refine zR ?_)|(first|((first|refine zA rfl ?_|refine zV rfl rfl ?_);first|refine JOq (JQ_eqS0 rfl rfl) rfl ?_|refine JOq (yX rfl rfl (by omega)) rfl ?_|refine zE rfl rfl ?_|refine zC rfl rfl ?_|refine zQ rfl (by rfl) rfl ?_|refine zU rfl rfl rfl ?_|refine yJ rfl rfl rfl ?_|refine zO rfl (pa) rfl ?_|refine zO rfl (pd) rfl ?_|refine zO rfl (hw) rfl ?_)))
    exact zS rfl rfl .nil
  · have pd := dput_bad a (bnd_few fa) (by
      unfold mayB
      rcases hn with h | h | h <;> rw [h] <;> simp)
    repeat (first|(first|refine zB ?_|refine zD ?_|refine zG ?_|refine zR ?_)|(first|((first|refine zA rfl ?_|refine zV rfl rfl ?_);first|refine JOq (JQ_eqS0 rfl rfl) rfl ?_|refine JOq (yX rfl rfl (by omega)) rfl ?_|refine zE rfl rfl ?_|refine zC rfl rfl ?_|refine zQ rfl (by rfl) rfl ?_|refine zU rfl rfl rfl ?_|refine yJ rfl rfl rfl ?_|refine zO rfl (pa) rfl ?_|refine zO rfl (pd) rfl ?_|refine zO rfl (hw) rfl ?_)))
    exact zS rfl rfl .nil
end Go.Proofs.YtickblndgihoeaaGreatDoor
