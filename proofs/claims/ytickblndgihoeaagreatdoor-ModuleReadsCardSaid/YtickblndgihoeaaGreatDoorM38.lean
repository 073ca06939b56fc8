/- What the laws of layer 11 are handed. -/
import Derived.Test.YtickblndgihoeaaGreatDoorM5
import Derived.Test.YtickblndgihoeaaGreatDoorM37
import Derived.Test.YtickblndgihoeaaGreatDoorM16
import Derived.Test.YtickblndgihoeaaGreatDoorM29
import Derived.Test.YtickblndgihoeaaGreatDoorM14
set_option linter.unusedSimpArgs false
namespace Go.Proofs.YtickblndgihoeaaGreatDoor
open Go Go.Sp Go.ChangeShapes Go.WideShapes Go.ChangeAt Go.RowKit
theorem ceBool : Tryz.prog.cellsOf 4 = 1 := by kernel_rfl
theorem ceInt : Tryz.prog.cellsOf 3 = 1 := by kernel_rfl
theorem ceInt64 : Tryz.prog.cellsOf 2 = 1 := by kernel_rfl
theorem ceInts : Tryz.prog.cellsOf 26 = 1 := by kernel_rfl
theorem ceEdge : Tryz.prog.cellsOf 55 = 2 := by kernel_rfl
theorem ceType : Tryz.prog.cellsOf 60 = 2 := by kernel_rfl
theorem ceEdges : Tryz.prog.cellsOf 56 = 1 := by kernel_rfl
theorem ceNode : Tryz.prog.cellsOf 58 = 6 := by kernel_rfl
theorem ceNodes : Tryz.prog.cellsOf 22 = 1 := by kernel_rfl
theorem ceParam : Tryz.prog.cellsOf 62 = 3 := by kernel_rfl
theorem ceParams : Tryz.prog.cellsOf 47 = 1 := by kernel_rfl
theorem ceInsn : Tryz.prog.cellsOf 52 = 6 := by kernel_rfl
theorem ceInsns : Tryz.prog.cellsOf 48 = 1 := by kernel_rfl
theorem ceTemplate : Tryz.prog.cellsOf 50 = 3 := by kernel_rfl
theorem ceTemplates : Tryz.prog.cellsOf 23 = 1 := by kernel_rfl
theorem ceTypes : Tryz.prog.cellsOf 24 = 1 := by kernel_rfl
theorem ceArg : Tryz.prog.cellsOf 64 = 3 := by kernel_rfl
theorem ceArgs : Tryz.prog.cellsOf 65 = 1 := by kernel_rfl
theorem ceStart : Tryz.prog.cellsOf 67 = 2 := by kernel_rfl
theorem ceStarts : Tryz.prog.cellsOf 25 = 1 := by kernel_rfl
theorem ceModule : Tryz.prog.cellsOf 28 = 8 := by kernel_rfl
theorem ceTurn11 : Tryz.prog.cellsOf 37 = 2 := by kernel_rfl
theorem wf_i64b {z : Int} (h : (Lit.int .i64 z).wf = true) : -9223372036854775808 ≤ z ∧ z ≤ 9223372036854775807 := by
  simp [Lit.wf,IntKind.min,IntKind.max,IntKind.signed,IntKind.bits] at h
  omega
section
variable {H : Type} {enc : TypeId × Value → H} {W : World} {base : Nat} {sp : Nat → Bool} {held : Bool}
theorem read_bool {t : TypeId} {n : Nat} {cs : List Value} {x : DataW H × List MemPlace} (ht : Tryz.prog.underlying t = some .bool) (h : DataW.trod enc Tryz.prog W base sp held n t cs = some x) : ∃ b : Bool,cs = [.bool b] := by
  obtain ⟨b,h1,_⟩ := DataW.trod_bool ht h
  exact ⟨b,h1⟩
set_option maxRecDepth 20000 in
theorem read_edge {n : Nat} {c : List Value} {D : DataW H × List MemPlace} (h : DataW.trod enc Tryz.prog W base sp held n 55 c = some D) : ∃ e : Int × Int,c = yI e := by
  obtain ⟨xs,m,_,hx,hl,hlen,hf⟩ := DataW.trod_struct Tryz.underlying55 (show DataW.trod enc Tryz.prog W base sp held n 55 c = some (D.1,D.2) from h)
  rw [ceEdge] at hl
  match c,hl with
  | [c0,c1],_ =>
  match xs,hlen with
  | [y0,y1],_ =>
    have h0 := hf 0 _ rfl
    have h1 := hf 1 _ rfl
    simp only [ceInt,List.drop,List.take,List.getElem?_cons_zero,List.getElem?_cons_succ] at h0 h1
    obtain ⟨z0,e0,_⟩ := read_int Tryz.underlying3 h0
    obtain ⟨z1,e1,_⟩ := read_int Tryz.underlying3 h1
    cases e0;cases e1
    exact ⟨(z0,z1),rfl⟩
set_option maxRecDepth 20000 in
theorem read_type {n : Nat} {c : List Value} {D : DataW H × List MemPlace} (h : DataW.trod enc Tryz.prog W base sp held n 60 c = some D) : ∃ e : Int × Int,c = yI e := by
  obtain ⟨xs,m,_,hx,hl,hlen,hf⟩ := DataW.trod_struct Tryz.underlying60 (show DataW.trod enc Tryz.prog W base sp held n 60 c = some (D.1,D.2) from h)
  rw [ceType] at hl
  match c,hl with
  | [c0,c1],_ =>
  match xs,hlen with
  | [y0,y1],_ =>
    have h0 := hf 0 _ rfl
    have h1 := hf 1 _ rfl
    simp only [ceInt,List.drop,List.take,List.getElem?_cons_zero,List.getElem?_cons_succ] at h0 h1
    obtain ⟨z0,e0,_⟩ := read_int Tryz.underlying3 h0
    obtain ⟨z1,e1,_⟩ := read_int Tryz.underlying3 h1
    cases e0;cases e1
    exact ⟨(z0,z1),rfl⟩
set_option maxRecDepth 20000 in
theorem read_node {n : Nat} {c : List Value} {D : DataW H × List MemPlace} (h : DataW.trod enc Tryz.prog W base sp held n 58 c = some D) : ∃ x : Nod,c = xR x ∧ (x.next.length ≤ x.a.2 ∧ ∀ k,Base W k → wG x k) := by
  obtain ⟨xs,m,_,hx,hl,hlen,hf⟩ := DataW.trod_struct Tryz.underlying58 (show DataW.trod enc Tryz.prog W base sp held n 58 c = some (D.1,D.2) from h)
  rw [ceNode] at hl
  match c,hl with
  | [c0,c1,c2,c3,c4,c5],_ =>
  match xs,hlen with
  | [y0,y1,y2,y3,y4],_ =>
    have h0 := hf 0 _ rfl
    have h1 := hf 1 _ rfl
    have h2 := hf 2 _ rfl
    have h3 := hf 3 _ rfl
    have h4 := hf 4 _ rfl
    simp only [ceInt,ceBool,ceEdge,ceEdges,List.drop,List.take,List.getElem?_cons_zero,List.getElem?_cons_succ] at h0 h1 h2 h3 h4
    obtain ⟨z0,e0,_⟩ := read_int Tryz.underlying3 h0
    obtain ⟨z1,e1,_⟩ := read_int Tryz.underlying3 h1
    obtain ⟨z2,e2⟩ := read_bool Tryz.underlying4 h2
    obtain ⟨z3,e3⟩ := read_edge h3
    obtain ⟨p,cap,zs,e4,l1,_,_,l2⟩ := read_row yI (fun _ => True) Tryz.underlying56 ceEdge (by decide) (fun m c y _ hy => (read_edge hy).imp fun _ h => ⟨h,trivial⟩) h4
    cases e0;cases e1;cases e2;cases e3;cases e4
    exact ⟨⟨z0,z1,z2,z3,zs,(p,cap)⟩,rfl,l1,l2⟩
set_option maxRecDepth 20000 in
theorem read_param {n : Nat} {c : List Value} {D : DataW H × List MemPlace} (h : DataW.trod enc Tryz.prog W base sp held n 62 c = some D) : ∃ x : Prm,c = tI x := by
  obtain ⟨xs,m,_,hx,hl,hlen,hf⟩ := DataW.trod_struct Tryz.underlying62 (show DataW.trod enc Tryz.prog W base sp held n 62 c = some (D.1,D.2) from h)
  rw [ceParam] at hl
  match c,hl with
  | [c0,c1,c2],_ =>
  match xs,hlen with
  | [y0,y1],_ =>
    have h0 := hf 0 _ rfl
    have h1 := hf 1 _ rfl
    simp only [ceBool,ceType,List.drop,List.take,List.getElem?_cons_zero,List.getElem?_cons_succ] at h0 h1
    obtain ⟨z0,e0⟩ := read_bool Tryz.underlying4 h0
    obtain ⟨z1,e1⟩ := read_type h1
    cases e0;cases e1
    exact ⟨⟨z0,z1⟩,rfl⟩
set_option maxRecDepth 20000 in
theorem read_arg {n : Nat} {c : List Value} {D : DataW H × List MemPlace} (h : DataW.trod enc Tryz.prog W base sp held n 64 c = some D) : ∃ x : Ar,c = arC x ∧ arOk x := by
  obtain ⟨xs,m,_,hx,hl,hlen,hf⟩ := DataW.trod_struct Tryz.underlying64 (show DataW.trod enc Tryz.prog W base sp held n 64 c = some (D.1,D.2) from h)
  rw [ceArg] at hl
  match c,hl with
  | [c0,c1,c2],_ =>
  match xs,hlen with
  | [y0,y1,y2],_ =>
    have h0 := hf 0 _ rfl
    have h1 := hf 1 _ rfl
    have h2 := hf 2 _ rfl
    simp only [ceBool,ceInt64,ceInt,List.drop,List.take,List.getElem?_cons_zero,List.getElem?_cons_succ] at h0 h1 h2
    obtain ⟨z0,e0⟩ := read_bool Tryz.underlying4 h0
    obtain ⟨z1,e1,_,w1⟩ := read_int Tryz.underlying2 h1
    obtain ⟨z2,e2,_⟩ := read_int Tryz.underlying3 h2
    cases e0;cases e1;cases e2
    exact ⟨⟨z0,z1,z2⟩,rfl,wf_i64b w1⟩
set_option maxRecDepth 20000 in
theorem read_insn11 {n : Nat} {c : List Value} {D : DataW H × List MemPlace} (h : DataW.trod enc Tryz.prog W base sp held n 52 c = some D) : ∃ y : YI,c = vC y ∧ ((y.1.l.length ≤ y.2.2 ∧ -9223372036854775808 ≤ y.1.a ∧ y.1.a ≤ 9223372036854775807) ∧ ∀ k,Base W k → InsV y k) := by
  obtain ⟨xs,m,_,hx,hl,hlen,hf⟩ := DataW.trod_struct Tryz.underlying52 (show DataW.trod enc Tryz.prog W base sp held n 52 c = some (D.1,D.2) from h)
  rw [ceInsn] at hl
  match c,hl with
  | [c0,c1,c2,c3,c4,c5],_ =>
  match xs,hlen with
  | [y0,y1,y2,y3,y4,y5],_ =>
    have h0 := hf 0 _ rfl
    have h1 := hf 1 _ rfl
    have h2 := hf 2 _ rfl
    have h3 := hf 3 _ rfl
    have h4 := hf 4 _ rfl
    have h5 := hf 5 _ rfl
    simp only [ceInt,ceInt64,ceInts,List.drop,List.take,List.getElem?_cons_zero,List.getElem?_cons_succ] at h0 h1 h2 h3 h4 h5
    obtain ⟨z0,e0,_⟩ := read_int Tryz.underlying3 h0
    obtain ⟨z1,e1,_,w1⟩ := read_int Tryz.underlying2 h1
    obtain ⟨z2,e2,_⟩ := read_int Tryz.underlying3 h2
    obtain ⟨z3,e3,_⟩ := read_int Tryz.underlying3 h3
    obtain ⟨z4,e4,_⟩ := read_int Tryz.underlying3 h4
    obtain ⟨p,cap,zs,Ds,e5,l1,_,l4,l2,_,l3⟩ := read_ints Tryz.underlying26 Tryz.underlying3 ceInt h5
    cases e0;cases e1;cases e2;cases e3;cases e4;cases e5
    exact ⟨(⟨z0,z1,z2,z3,z4,zs⟩,p,cap),rfl,⟨l4,wf_i64b w1⟩,l2⟩
set_option maxRecDepth 20000 in
theorem read_template {n : Nat} {c : List Value} {D : DataW H × List MemPlace} (h : DataW.trod enc Tryz.prog W base sp held n 50 c = some D) : ∃ x : Tem,c = wA x ∧ ((x.params.length ≤ x.pa.2 ∧ ∀ y ∈ x.code,y.1.l.length ≤ y.2.2 ∧ -9223372036854775808 ≤ y.1.a ∧ y.1.a ≤ 9223372036854775807) ∧ ∀ k,Base W k → TemV x k) := by
  obtain ⟨xs,m,_,hx,hl,hlen,hf⟩ := DataW.trod_struct Tryz.underlying50 (show DataW.trod enc Tryz.prog W base sp held n 50 c = some (D.1,D.2) from h)
  rw [ceTemplate] at hl
  match c,hl with
  | [c0,c1,c2],_ =>
  match xs,hlen with
  | [y0,y1,y2],_ =>
    have h0 := hf 0 _ rfl
    have h1 := hf 1 _ rfl
    have h2 := hf 2 _ rfl
    simp only [ceParams,ceInsns,ceInts,List.drop,List.take,List.getElem?_cons_zero,List.getElem?_cons_succ] at h0 h1 h2
    obtain ⟨p,cap,ps,e0,l1,_,_,l2⟩ := read_row tI (fun _ => True) Tryz.underlying47 ceParam (by decide) (fun m c y _ hy => (read_param hy).imp fun _ h => ⟨h,trivial⟩) h0
    obtain ⟨p',cap',ys,e1,k1,_,k3,k2⟩ := read_row vC (fun y => (y.1.l.length ≤ y.2.2 ∧ -9223372036854775808 ≤ y.1.a ∧ y.1.a ≤ 9223372036854775807) ∧ ∀ k,Base W k → InsV y k) Tryz.underlying48 ceInsn (by decide) (fun m c y _ hy => read_insn11 hy) h1
    obtain ⟨p2,cap2,zs,Ds,e2,_⟩ := read_ints Tryz.underlying26 Tryz.underlying3 ceInt h2
    cases e0;cases e1;cases e2
    exact ⟨⟨ps,(p,cap),ys,(p',cap'),zs,(p2,cap2)⟩,rfl,⟨l1,fun y hy => (k3 y hy).1⟩,fun k hk => ⟨l2 k hk,k2 k hk,fun y hy => (k3 y hy).2 k hk⟩⟩
set_option maxRecDepth 20000 in
theorem read_start {n : Nat} {c : List Value} {D : DataW H × List MemPlace} (h : DataW.trod enc Tryz.prog W base sp held n 67 c = some D) : ∃ x : Sta,c = vE x ∧ ((x.args.length ≤ x.a.2 ∧ ∀ p ∈ x.args,arOk p) ∧ ∀ k,Base W k → StaR x k) := by
  obtain ⟨xs,m,_,hx,hl,hlen,hf⟩ := DataW.trod_struct Tryz.underlying67 (show DataW.trod enc Tryz.prog W base sp held n 67 c = some (D.1,D.2) from h)
  rw [ceStart] at hl
  match c,hl with
  | [c0,c1],_ =>
  match xs,hlen with
  | [y0,y1],_ =>
    have h0 := hf 0 _ rfl
    have h1 := hf 1 _ rfl
    simp only [ceInt,ceArgs,List.drop,List.take,List.getElem?_cons_zero,List.getElem?_cons_succ] at h0 h1
    obtain ⟨z0,e0,_⟩ := read_int Tryz.underlying3 h0
    obtain ⟨p,cap,ps,e1,l1,_,l3,l2⟩ := read_row arC (fun p => arOk p) Tryz.underlying65 ceArg (by decide) (fun m c y _ hy => read_arg hy) h1
    cases e0;cases e1
    exact ⟨⟨z0,ps,(p,cap)⟩,rfl,⟨l1,l3⟩,l2⟩
set_option maxRecDepth 20000 in
theorem read_module {v : Value} {d : DataW H} {ps : List MemPlace} {r : Go.Reach} {b0 : Nat} (hv : Value.okWide Tryz.prog W r b0 28 v) (h : DataW.Trod enc Tryz.prog W base sp held 28 v d ps) :
    ∃ m : Mdl,v = .agg (vN m).toArray ∧ CapM m ∧ ∀ k,Base W k → RawR m k := by
  obtain ⟨cs,rfl⟩ := ok_agg (.inl ⟨_,Tryz.underlying28⟩) hv
  obtain ⟨n,hn⟩ := h
  obtain ⟨xs,m,_,_,hl,hlen,hf⟩ := DataW.trod_struct Tryz.underlying28 hn
  rw [ceModule] at hl
  have hl' : cs.length = 8 := by simpa [Value.cells] using hl
  match cs,hl' with
  | [c0,c1,c2,c3,c4,c5,c6,c7],_ =>
  match xs,hlen with
  | [y0,y1,y2,y3,y4,y5,y6,y7],_ =>
    have h0 := hf 0 _ rfl
    have h1 := hf 1 _ rfl
    have h2 := hf 2 _ rfl
    have h3 := hf 3 _ rfl
    have h4 := hf 4 _ rfl
    have h5 := hf 5 _ rfl
    have h6 := hf 6 _ rfl
    have h7 := hf 7 _ rfl
    simp only [Value.cells,ceNodes,ceTemplates,ceTypes,ceStarts,ceInts,List.drop,List.take,List.getElem?_cons_zero,List.getElem?_cons_succ] at h0 h1 h2 h3 h4 h5 h6 h7
    obtain ⟨pn,kn,ns,e0,_,_,n3,n2⟩ := read_row xR (fun x => x.next.length ≤ x.a.2 ∧ ∀ k,Base W k → wG x k) Tryz.underlying22 ceNode (by decide) (fun m c y _ hy => read_node hy) h0
    obtain ⟨pt',kt,ts,e1,_,_,t3,t2⟩ := read_row wA (fun x => (x.params.length ≤ x.pa.2 ∧ ∀ y ∈ x.code,y.1.l.length ≤ y.2.2 ∧ -9223372036854775808 ≤ y.1.a ∧ y.1.a ≤ 9223372036854775807) ∧ ∀ k,Base W k → TemV x k) Tryz.underlying23 ceTemplate (by decide) (fun m c y _ hy => read_template hy) h1
    obtain ⟨pc,kc,cs',e2,c1',_,_,c2'⟩ := read_row yI (fun _ => True) Tryz.underlying24 ceType (by decide) (fun m c y _ hy => (read_type hy).imp fun _ h => ⟨h,trivial⟩) h2
    obtain ⟨ps',ks,ss,e3,_,_,s3,s2⟩ := read_row vE (fun x => (x.args.length ≤ x.a.2 ∧ ∀ p ∈ x.args,arOk p) ∧ ∀ k,Base W k → StaR x k) Tryz.underlying25 ceStart (by decide) (fun m c y _ hy => read_start hy) h3
    obtain ⟨p4,k4,z4,_,e4,_⟩ := read_ints Tryz.underlying26 Tryz.underlying3 ceInt h4
    obtain ⟨p5,k5,z5,_,e5,_⟩ := read_ints Tryz.underlying26 Tryz.underlying3 ceInt h5
    obtain ⟨p6,k6,z6,_,e6,_⟩ := read_ints Tryz.underlying26 Tryz.underlying3 ceInt h6
    obtain ⟨p7,k7,z7,_,e7,_⟩ := read_ints Tryz.underlying26 Tryz.underlying3 ceInt h7
    cases e0;cases e1;cases e2;cases e3;cases e4;cases e5;cases e6;cases e7
    refine ⟨⟨ns,(pn,kn),ts,(pt',kt),cs',(pc,kc),ss,(ps',ks),z4,(p4,k4),z5,(p5,k5),z6,(p6,k6),z7,(p7,k7)⟩,rfl,⟨fun x hx => (n3 x hx).1,fun x hx => (t3 x hx).1,c1',fun x hx => (s3 x hx).1⟩,fun k hk A hA => ?_⟩
    simp only [rawK,List.mem_cons,List.not_mem_nil,or_false] at hA
    rcases hA with rfl | rfl | rfl | rfl | rfl | rfl | rfl
    · exact n2 k hk
    · exact fun x hx => (n3 x hx).2 k hk
    · exact t2 k hk
    · exact fun x hx => (t3 x hx).2 k hk
    · exact c2' k hk
    · exact s2 k hk
    · exact fun x hx => (s3 x hx).2 k hk
set_option maxRecDepth 20000 in
theorem read_turn11 {v : Value} {d : DataW H} {ps : List MemPlace} {r : Go.Reach} {b0 : Nat} (hv : Value.okWide Tryz.prog W r b0 37 v) (h : DataW.Trod enc Tryz.prog W base sp held 37 v d ps) :
    ∃ (a b : Nat),v = .agg #[.int .u16 (a : Int),.int .u8 (b : Int)] ∧ a < 65536 := by
  obtain ⟨cs,rfl⟩ := ok_agg (.inl ⟨_,Tryz.underlying37⟩) hv
  obtain ⟨n,hn⟩ := h
  obtain ⟨xs,m,_,_,hl,hlen,hf⟩ := DataW.trod_struct Tryz.underlying37 hn
  rw [ceTurn11] at hl
  have hl' : cs.length = 2 := by simpa [Value.cells] using hl
  match cs,hl' with
  | [c0,c1],_ =>
  match xs,hlen with
  | [y0,y1],_ =>
    have h0 := hf 0 _ rfl
    have h1 := hf 1 _ rfl
    simp only [Value.cells,List.getElem?_cons_zero,List.getElem?_cons_succ] at h0 h1
    obtain ⟨a,e0,_,w0⟩ := read_int Tryz.underlying35 h0
    obtain ⟨b,e1,_,w1⟩ := read_int Tryz.underlying5 h1
    obtain ⟨a',rfl,ha⟩ := wf_u16 w0
    obtain ⟨b',rfl,hb⟩ := wf_u8 w1
    cases e0;cases e1
    exact ⟨a',b',rfl,ha⟩
end
end Go.Proofs.YtickblndgihoeaaGreatDoor

/- Layer 11: how long what is laid may be;what was read is small. -/
namespace Go.Proofs.YtickblndgihoeaaGreatDoor
open Go Go.Sp
theorem uW {α : Type} {o : α → OB} {least most : Int} {l : List α} {b : List UInt8} (h : wH least most o l = some b) : least ≤ (l.length : Int) ∧ (l.length : Int) ≤ most ∧ ∃ a r,wK l.length most = some a ∧ uY o l = some r ∧ b = a ++ r := by
  unfold wH at h
  split at h
  · rename_i h0
    obtain ⟨a,r,h1,h2,h3⟩ := xO.1 h
    exact ⟨h0,(numO_le h1).2,a,r,h1,h2,h3⟩
  · cases h
theorem mapO_mem {α : Type} {o : α → OB} : ∀ {l : List α} {b : List UInt8},uY o l = some b → ∀ x ∈ l,∃ c,o x = some c
  | [],_,_,x,hx => by cases hx
  | y :: l,b,h,x,hx => by
    obtain ⟨a,r,h1,h2,h3⟩ := xO.1 (show xM (o y) (uY o l) = some b from h)
    rcases List.mem_cons.1 hx with rfl | hx
    · exact ⟨a,h1⟩
    · exact mapO_mem h2 x hx
theorem LeO.num2 {n m : Int} (hm : m ≤ 16383) : LeO (wK n m) 2 := fun bs h => by
  have h1 := numO_le h
  unfold wK at h
  rw [if_pos h1] at h
  cases h
  exact enc_len (k := 1) (by rw [show (128 : Nat) ^ (1 + 1) = 16384 from by decide];omega)
theorem LeO.must0 {b : Bool} : LeO (wV b) 0 := by
  cases b
  · exact LeO.none
  · exact fun _ h => by cases h;simp
theorem LeO.prm {p : Prm} : LeO (prmO p) 5 := by
  obtain ⟨ch,e⟩ := p
  have hf : ∀ b,LeO (flagO b) 1 := fun b x h => by cases h;simp
  cases ch with
  | true => rw [prmO_t];exact (hf true).cat ((LeO.num2 (by decide)).cat (LeO.num2 (by decide)))
  | false => rw [prmO_f];exact ((hf false).cat LeO.must0).mono (by decide)
theorem LeO.ins {y : YI} (ha : -9223372036854775808 ≤ y.1.a ∧ y.1.a ≤ 9223372036854775807) : LeO (insO y) 131 := fun bs h => by
  rcases chk_cases y.1 with h0 | ⟨n,h24,hn,hf,h0⟩
  · rw [insO_bad h0] at h;cases h
  · rw [insO_ok hn h0] at h
    cases h
    exact (bytes_len h24 hn hf ha).1
theorem LeO.tem {t : Tem} (ht : temOk t) : LeO (temO t) (20 + 5 * t.params.length + 131 * t.code.length) := by
  have h1 : LeO (wH 0 8 prmO t.params) (10 + costs (fun _ => 5) t.params) := LeO.list (by decide) fun x _ => LeO.prm
  have h2 : LeO (wH 1 128 insO t.code) (10 + costs (fun _ => 131) t.code) := LeO.list (by decide) fun x hx => LeO.ins (ht x hx)
  have e1 := uL (f := fun _ : Prm => 5) (b := 5) (l := t.params) fun _ _ => Nat.le_refl _
  have e2 := uL (f := fun _ : YI => 131) (b := 131) (l := t.code) fun _ _ => Nat.le_refl _
  exact (h1.cat h2).mono (by omega)
theorem few_fits {m : Mdl} (h : FewM m) {x y z : List UInt8} (h1 : sec1O m = some x) (h2 : sec2O m = some y) (h3 : sec3O m = some z) : x.length ≤ 65536 ∧ y.length ≤ 65536 ∧ z.length ≤ 65536 := by
  have hok := ok_few h
  obtain ⟨⟨n1,n2⟩,⟨t1,t2⟩,c1,⟨s1,s2⟩,_⟩ := h
  refine ⟨?_,?_,?_⟩
  · have e1 : costs costN m.nodes ≤ m.nodes.length * 300 := uL fun x hx => by
      have h1 := uL (f := fun _ : Int × Int => 20) (b := 20) (l := x.next) (fun _ _ => Nat.le_refl _)
      have := n2 x hx
      unfold costN;omega
    have := (LeO.list (cost := costN) (by decide) fun x _ => (fun _ hb => nodeO_len hb)) x h1
    omega
  · have hl := (uW h2).2.1
    have e1 : costs (fun t : Tem => 20 + 5 * t.params.length + 131 * t.code.length) m.temps ≤ m.temps.length * 4000 := uL fun x hx => by
      have := t2 x hx
      omega
    have := (LeO.list (cost := fun t : Tem => 20 + 5 * t.params.length + 131 * t.code.length) (by decide) fun x hx => LeO.tem (hok.1 x hx)) y h2
    omega
  · have e1 := uL (f := fun _ : Int × Int => 20) (b := 20) (l := m.chans) fun _ _ => Nat.le_refl _
    have e2 : costs costS m.starts ≤ m.starts.length * 330 := uL fun x hx => by
      have h1 := uL (f := fun _ : Ar => 30) (b := 30) (l := x.args) (fun _ _ => Nat.le_refl _)
      have := s2 x hx
      unfold costS;omega
    have := ((LeO.list (cost := fun _ : Int × Int => 20) (by decide) fun _ _ => LeO.edge).cat (LeO.list (cost := costS) (by decide) fun x hx => staO_len (hok.2 x hx))) z h3
    omega
theorem one_len {l : List (Int × Int)} {b : List UInt8} (h : oneO l = some b) : l.length = 1 := by
  rcases l with _ | ⟨e,_ | ⟨e',l⟩⟩
  · cases h
  · rfl
  · cases h
theorem node_few {n : Nod} {b : List UInt8} (h : wJ n = some b) : n.next.length ≤ 8 := by
  unfold wJ at h
  split at h
  · obtain ⟨_,_,_,h,_⟩ := xO.1 h
    obtain ⟨_,_,_,h,_⟩ := xO.1 h
    obtain ⟨_,_,_,h,_⟩ := xO.1 h
    obtain ⟨_,_,_,h,_⟩ := xO.1 h
    have := of_decide_eq_true (mustO_iff.1 h).1
    omega
  split at h
  · obtain ⟨_,_,_,h,_⟩ := xO.1 h
    obtain ⟨_,_,_,h,_⟩ := xO.1 h
    obtain ⟨_,_,_,h,_⟩ := xO.1 h
    obtain ⟨_,_,_,h,_⟩ := xO.1 h
    have := one_len h
    omega
  split at h
  · obtain ⟨_,_,_,h,_⟩ := xO.1 h
    obtain ⟨_,_,_,h,_⟩ := xO.1 h
    obtain ⟨_,_,_,h,_⟩ := xO.1 h
    obtain ⟨_,_,_,h,_⟩ := xO.1 h
    obtain ⟨_,_,_,h,_⟩ := xO.1 h
    have := one_len h
    omega
  split at h
  · obtain ⟨_,_,_,h,_⟩ := xO.1 h
    obtain ⟨_,_,_,h,_⟩ := xO.1 h
    obtain ⟨_,_,_,h,_⟩ := xO.1 h
    obtain ⟨_,_,_,h,_⟩ := xO.1 h
    have := (uW h).2.1
    omega
  · cases h
theorem sec_small {m : Mdl} {x y z : List UInt8} (h1 : sec1O m = some x) (h2 : sec2O m = some y) (h3 : sec3O m = some z) : smallM m ∧ BndM m := by
  obtain ⟨_,n1,_,n2,_,n3,_⟩ := uW (show wH 0 64 wJ m.nodes = some x from h1)
  obtain ⟨_,t1,_,t2,_,t3,_⟩ := uW (show wH 0 16 temO m.temps = some y from h2)
  obtain ⟨_,_,h4,h5,_⟩ := xO.1 (show xM (wH 0 16 xV m.chans) (wH 0 8 staO m.starts) = some z from h3)
  obtain ⟨_,c1,_,_,_,_,_⟩ := uW h4
  obtain ⟨_,s1,_,s2,_,s3,_⟩ := uW h5
  have fn : ∀ n ∈ m.nodes,n.next.length ≤ 8 := fun n hn => by
    obtain ⟨c,hc⟩ := mapO_mem n3 n hn
    exact node_few hc
  have ft : ∀ t ∈ m.temps,t.params.length ≤ 8 ∧ t.code.length ≤ 128 := fun t ht => by
    obtain ⟨c,hc⟩ := mapO_mem t3 t ht
    obtain ⟨_,_,k1,k2,_⟩ := xO.1 (show xM (wH 0 8 prmO t.params) (wH 1 128 insO t.code) = some c from hc)
    have := (uW k1).2.1
    have := (uW k2).2.1
    omega
  have fs : ∀ s ∈ m.starts,s.args.length ≤ 8 := fun s hs => by
    obtain ⟨c,hc⟩ := mapO_mem s3 s hs
    obtain ⟨_,_,k1,k2,_⟩ := xO.1 (show xM (wK s.tm 15) (wH 0 8 arO s.args) = some c from hc)
    have := (uW k2).2.1
    omega
  have e1 : costs costN m.nodes ≤ m.nodes.length * 260 := uL fun x hx => by
    have h1 := uL (f := fun _ : Int × Int => 20) (b := 20) (l := x.next) (fun _ _ => Nat.le_refl _)
    have := fn x hx
    unfold costN;omega
  have e2 : costs costT m.temps ≤ m.temps.length * 18190 := uL fun x hx => by
    have h1 := uL (f := fun _ : Prm => 30) (b := 30) (l := x.params) (fun _ _ => Nat.le_refl _)
    have h2 := uL (f := fun _ : YI => 140) (b := 140) (l := x.code) (fun _ _ => Nat.le_refl _)
    have := ft x hx
    unfold costT;omega
  have e3 : costs (fun _ : Int × Int => 20) m.chans ≤ m.chans.length * 20 := uL fun _ _ => Nat.le_refl _
  have e4 : costs costS m.starts ≤ m.starts.length * 270 := uL fun x hx => by
    have h1 := uL (f := fun _ : Ar => 30) (b := 30) (l := x.args) (fun _ _ => Nat.le_refl _)
    have := fs x hx
    unfold costS;omega
  refine ⟨⟨?_,?_,?_,?_⟩,⟨by omega,fun x hx => ?_⟩,⟨by omega,fun x hx => ?_⟩,by omega,⟨by omega,fun x hx => ?_⟩⟩
  · omega
  · omega
  · omega
  · omega
  · have := fn x hx;omega
  · have := ft x hx;omega
  · have := fs x hx;omega
theorem put_few (m : Mdl) (h : FewM m) : (∃ x y z,sec1O m = some x ∧ sec2O m = some y ∧ sec3O m = some z ∧ (x.length ≤ 65536 ∧ y.length ≤ 65536 ∧ z.length ≤ 65536) ∧ Ct Tryz.prog 9 #[.agg (vN m).toArray] [uK m] (wF (.tuple #[str (tB x y z),.int .i64 0]) [uK m])) ∨
    ((sec1O m = none ∨ sec2O m = none ∨ sec3O m = none) ∧ Ct Tryz.prog 9 #[.agg (vN m).toArray] [uK m] (wF (.tuple #[str [],.int .i64 2]) [uK m])) := by
  cases h1 : sec1O m with
  | none => exact .inr ⟨.inl rfl,put11_bad m (small_few h) (.inl h1)⟩
  | some x =>
    cases h2 : sec2O m with
    | none => exact .inr ⟨.inr (.inl rfl),put11_bad m (small_few h) (.inr (.inl h2))⟩
    | some y =>
      cases h3 : sec3O m with
      | none => exact .inr ⟨.inr (.inr rfl),put11_bad m (small_few h) (.inr (.inr h3))⟩
      | some z =>
        have hl := few_fits h h1 h2 h3
        have := put11_ok m (small_few h) h1 h2 h3 (by omega) (by omega) (by omega)
        unfold joinA at this
        rw [if_pos hl] at this
        exact .inl ⟨x,y,z,rfl,rfl,rfl,hl,this⟩
theorem joinL_few {x y z : List UInt8} (h : x.length ≤ 65536 ∧ y.length ≤ 65536 ∧ z.length ≤ 65536) : (tB x y z).length ≤ 300000 := by
  obtain ⟨h1,h2,h3⟩ := h
  have g1 := vM (n := x.length) (by omega)
  have g2 := vM (n := y.length) (by omega)
  have g3 := vM (n := z.length) (by omega)
  simp only [tB,vP,headL,List.length_append,List.length_cons,List.length_nil]
  omega
end Go.Proofs.YtickblndgihoeaaGreatDoor

/- Layer 11: where the things of a module that was read stand. -/
namespace Go.Proofs.YtickblndgihoeaaGreatDoor
open Go Go.Sp
def AscI : Int → List Int → Int → Prop
  | lo,[],hi => lo ≤ hi
  | lo,p :: ps,hi => lo ≤ p ∧ AscI (p + 1) ps hi
theorem asc_lo : ∀ {ps : List Int} {lo lo' hi : Int},lo' ≤ lo → AscI lo ps hi → AscI lo' ps hi
  | [],lo,lo',hi,hl,h => by have : lo ≤ hi := h;show lo' ≤ hi;omega
  | p :: ps,lo,lo',hi,hl,h => ⟨by have := h.1;omega,h.2⟩
theorem asc_hi : ∀ {ps : List Int} {lo hi hi' : Int},hi ≤ hi' → AscI lo ps hi → AscI lo ps hi'
  | [],lo,hi,hi',hl,h => by have : lo ≤ hi := h;show lo ≤ hi';omega
  | p :: ps,lo,hi,hi',hl,h => ⟨h.1,asc_hi hl h.2⟩
theorem asc_app : ∀ {ps qs : List Int} {lo mid hi : Int},AscI lo ps mid → AscI mid qs hi → AscI lo (ps ++ qs) hi
  | [],qs,lo,mid,hi,h,g => asc_lo h g
  | p :: ps,qs,lo,mid,hi,h,g => ⟨h.1,asc_app h.2 g⟩
theorem asc_plc {α : Type} {o : α → OB} (h1 : ∀ x b,o x = some b → 1 ≤ b.length) : ∀ {l : List α} {r : List UInt8} (P : Int),uY o l = some r → AscI P (plcO o l P) (P + r.length)
  | [],r,P,h => by cases h;show P ≤ P + _;simp
  | x :: l,r,P,h => by
    obtain ⟨a,c,g1,g2,rfl⟩ := xO.1 (show xM (o x) (uY o l) = some r from h)
    have := h1 x a g1
    have e : lenO (o x) = (a.length : Int) := by rw [g1];rfl
    refine ⟨Int.le_refl _,?_⟩
    show AscI (P + 1) (plcO o l (P + lenO (o x))) _
    rw [e,List.length_append]
    exact asc_lo (by omega) (asc_hi (by omega) (asc_plc h1 (P + a.length) g2))
theorem plc_len {α : Type} {o : α → OB} : ∀ (l : List α) (P : Int),(plcO o l P).length = l.length
  | [],_ => rfl
  | x :: l,P => by simp [plcO,plc_len l]
theorem plc_at {α : Type} {o : α → OB} : ∀ {l : List α} {r : List UInt8} {k : Nat} {x : α} (P : Int),uY o l = some r → l[k]? = some x → ∃ pre b post,r = pre ++ (b ++ post) ∧ o x = some b ∧ (plcO o l P)[k]? = some (P + pre.length)
  | [],r,k,x,P,h,hx => by simp at hx
  | y :: l,r,0,x,P,h,hx => by
    obtain ⟨a,c,g1,g2,rfl⟩ := xO.1 (show xM (o y) (uY o l) = some r from h)
    simp only [List.getElem?_cons_zero,Option.some.injEq] at hx
    subst hx
    exact ⟨[],a,c,rfl,g1,by simp [plcO]⟩
  | y :: l,r,k + 1,x,P,h,hx => by
    obtain ⟨a,c,g1,g2,rfl⟩ := xO.1 (show xM (o y) (uY o l) = some r from h)
    have e : lenO (o y) = (a.length : Int) := by rw [g1];rfl
    obtain ⟨pre,b,post,rfl,k2,k3⟩ := plc_at (P + a.length) g2 (show l[k]? = some x by simpa using hx)
    refine ⟨a ++ pre,b,post,by simp,k2,?_⟩
    show (plcO o l (P + lenO (o y)))[k]? = _
    rw [e,k3,List.length_append]
    congr 1
    omega
theorem numO_pos {n m : Int} {b : List UInt8} (h : wK n m = some b) : 1 ≤ b.length := by
  have h1 := numO_le h
  unfold wK at h
  rw [if_pos h1] at h
  cases h
  unfold vJ
  rw [wY]
  split <;> simp
theorem cat_pos {x y : OB} (hx : ∀ b,x = some b → 1 ≤ b.length) {b : List UInt8} (h : xM x y = some b) : 1 ≤ b.length := by
  obtain ⟨a,c,h1,_,rfl⟩ := xO.1 h
  have := hx a h1
  rw [List.length_append];omega
theorem list_pos {α : Type} {o : α → OB} {least most : Int} {l : List α} {b : List UInt8} (h : wH least most o l = some b) : 1 ≤ b.length := by
  obtain ⟨_,_,a,r,h1,_,rfl⟩ := uW h
  have := numO_pos h1
  rw [List.length_append];omega
theorem node_pos (n : Nod) (b : List UInt8) (h : wJ n = some b) : 1 ≤ b.length := by
  unfold wJ at h
  split at h
  · exact cat_pos (fun _ h => numO_pos h) h
  split at h
  · exact cat_pos (fun _ h => numO_pos h) h
  split at h
  · exact cat_pos (fun _ h => numO_pos h) h
  split at h
  · exact cat_pos (fun _ h => numO_pos h) h
  · cases h
theorem edge_pos (e : Int × Int) (b : List UInt8) (h : xV e = some b) : 1 ≤ b.length := cat_pos (fun _ h => numO_pos h) (show xM (wK e.1 63) (wK e.2 1000) = some b from h)
theorem sta_pos (s : Sta) (b : List UInt8) (h : staO' s = some b) : 1 ≤ b.length := by
  unfold staO' at h
  split at h
  · exact cat_pos (fun _ h => numO_pos h) (show xM (wK s.tm 15) (wH 0 8 arO s.args) = some b from h)
  · cases h
theorem tem_pos (t : Tem) (b : List UInt8) (h : temO' t = some b) : 1 ≤ b.length := by
  rw [temO'_eq (temO'_ok h)] at h
  exact cat_pos (fun _ h => list_pos h) h
theorem ins_head (y : YI) (b : List UInt8) (h : insO' y = some b) : ∃ (n : Nat) (t : List UInt8),n ≤ 24 ∧ y.1.op = (n : Int) ∧ b = UInt8.ofNat n :: t := by
  unfold insO' at h
  split at h
  · rcases chk_cases y.1 with h0 | ⟨n,h24,hn,hf,h0⟩
    · rw [insO_bad h0] at h;cases h
    · rw [insO_ok hn h0] at h
      cases h
      unfold tJ
      exact ⟨n,_,h24,hn,by rw [hn,Int.toNat_natCast]⟩
  · cases h
theorem ins_pos (y : YI) (b : List UInt8) (h : insO' y = some b) : 1 ≤ b.length := by
  obtain ⟨n,t,_,_,rfl⟩ := ins_head y b h
  simp
theorem many_at {α : Type} {rd : Rdr α} : ∀ {n : Nat} {bs : List UInt8} {pl : Int} {z : List α × List Int} {bs' : List UInt8} {pl' : Int},vB rd n bs pl = .ok z bs' pl' → ∀ (k : Nat) (x : α),z.1[k]? = some x → ∃ p b b' p',z.2[k]? = some p ∧ rd b p = .ok x b' p'
  | 0,bs,pl,z,bs',pl',h,k,x,hx => by cases h;simp at hx
  | n + 1,bs,pl,z,bs',pl',h,k,x,hx => by
    have h : (rd bs pl).bind (fun x bs1 pl1 => (vB rd n bs1 pl1).bind fun z bs2 pl2 => .ok (x :: z.1,pl :: z.2) bs2 pl2) = .ok z bs' pl' := h
    obtain ⟨y,bs1,pl1,h1,h2⟩ := bind_inv h
    obtain ⟨z1,bs2,pl2,h3,h4⟩ := bind_inv h2
    cases h4
    cases k with
    | zero => simp at hx;subst hx;exact ⟨pl,bs,bs1,pl1,rfl,h1⟩
    | succ k => exact many_at h3 k x (by simpa using hx)
theorem sev_at {α : Type} {rd : Rdr α} {least most : Int} {bs : List UInt8} {pl : Int} {z : List α × List Int} {bs' : List UInt8} {pl' : Int} (h : vR least most rd bs pl = .ok z bs' pl') (k : Nat) (x : α) (hx : z.1[k]? = some x) : ∃ p b b' p',z.2[k]? = some p ∧ rd b p = .ok x b' p' := by
  unfold vR at h
  obtain ⟨n,b1,p1,h1,h2⟩ := bind_inv h
  split at h2
  · cases h2
  · exact many_at h2 k x hx
theorem taken_at {s : List UInt8} {m : Mdl} {bs : List UInt8} {pl : Int} (h : wZ s = .ok m bs pl) (k : Nat) (t : Tem) (ht : m.temps[k]? = some t) : ∃ p,m.tat[k]? = some p ∧ t.at_ = plcO insO' t.code (codeAt t p) := by
  unfold wZ at h
  split at h
  · cases h
  · obtain ⟨z1,b1,p1,g1,f1⟩ := bind_inv h
    obtain ⟨_,_,_,g2,f2⟩ := bind_inv f1
    obtain ⟨z2,b2,p2,g3,f3⟩ := bind_inv f2
    obtain ⟨_,_,_,g4,f4⟩ := bind_inv f3
    obtain ⟨z3,b3,p3,g5,f5⟩ := bind_inv f4
    obtain ⟨z4,b4,p4,g6,f6⟩ := bind_inv f5
    obtain ⟨_,_,_,g7,f7⟩ := bind_inv f6
    cases f7
    obtain ⟨p,_,_,_,h1,h2⟩ := sev_at g3 k t ht
    exact ⟨p,h1,(temR_ok h2).2⟩
structure TakenF (s : List UInt8) (m : Mdl) : Prop where
  lens : m.nat.length = m.nodes.length ∧ m.tat.length = m.temps.length ∧ m.cat.length = m.chans.length ∧ m.sat.length = m.starts.length
  asc : AscI 1 (m.nat ++ m.tat ++ m.cat ++ m.sat) s.length
  at_ : ∀ (k : Nat) (t : Tem),m.temps[k]? = some t → ∃ p,m.tat[k]? = some p ∧ t.at_.length = t.code.length ∧ AscI (p + 1) t.at_ s.length ∧ ∀ (j : Nat) (y : YI),t.code[j]? = some y → ∃ i : Nat,t.at_[j]? = some (i : Int) ∧ ∃ c : UInt8,s[i]? = some c ∧ y.1.op = (c.toNat : Int)
theorem get_mid (A B : List UInt8) (c : UInt8) : (A ++ c :: B)[A.length]? = some c := by simp
theorem taken_facts {s : List UInt8} {m : Mdl} {bs : List UInt8} {pl : Int} (h : wZ s = .ok m bs pl) : TakenF s m := by
  obtain ⟨x,y,z,rfl,⟨hx,hy,hz⟩,h1,h2,h3,hok,⟨q1,q2,q3,q4⟩,_⟩ := taken_inv h
  have hat := taken_at h
  rw [sec2O_eq hok] at h2
  rw [sec3O_eq hok] at h3
  obtain ⟨_,_,a1,r1,n1,m1,rfl⟩ := uW (show wH 0 64 wJ m.nodes = some x from h1)
  obtain ⟨_,_,a2,r2,n2,m2,rfl⟩ := uW h2
  obtain ⟨zc,zs,hc,hs,rfl⟩ := xO.1 h3
  have hcl : lenO (wH 0 16 xV m.chans) = (zc.length : Int) := by rw [hc];rfl
  obtain ⟨_,_,a3,r3,n3,m3,rfl⟩ := uW hc
  obtain ⟨_,_,a4,r4,n4,m4,rfl⟩ := uW hs
  have e1 : lenO (wK m.nodes.length 64) = (a1.length : Int) := by rw [n1];rfl
  have e2 : lenO (wK m.temps.length 16) = (a2.length : Int) := by rw [n2];rfl
  have e3 : lenO (wK m.chans.length 16) = (a3.length : Int) := by rw [n3];rfl
  have e4 : lenO (wK m.starts.length 8) = (a4.length : Int) := by rw [n4];rfl
  rw [e1] at q1
  rw [e2] at q2
  rw [e3] at q3
  rw [hcl,e4] at q4
  have l1 : (vP 1 (a1 ++ r1)).length = 1 + (wY (a1 ++ r1).length).length + (a1 ++ r1).length := by simp only [vP,List.length_cons,List.length_append];omega
  have l2 : (vP 2 (a2 ++ r2)).length = 1 + (wY (a2 ++ r2).length).length + (a2 ++ r2).length := by simp only [vP,List.length_cons,List.length_append];omega
  have l3 : (vP 3 ((a3 ++ r3) ++ (a4 ++ r4))).length = 1 + (wY ((a3 ++ r3) ++ (a4 ++ r4)).length).length + ((a3 ++ r3) ++ (a4 ++ r4)).length := by simp only [vP,List.length_cons,List.length_append];omega
  have lt : (tB (a1 ++ r1) (a2 ++ r2) ((a3 ++ r3) ++ (a4 ++ r4))).length = 5 + (vP 1 (a1 ++ r1)).length + (vP 2 (a2 ++ r2)).length + (vP 3 ((a3 ++ r3) ++ (a4 ++ r4))).length := by
    unfold tB
    simp only [List.length_append,headL,List.length_cons,List.length_nil]
    omega
  have hS : tB (a1 ++ r1) (a2 ++ r2) ((a3 ++ r3) ++ (a4 ++ r4)) = (headL ++ vP 1 (a1 ++ r1) ++ [2] ++ wY (a2 ++ r2).length) ++ ((a2 ++ r2) ++ vP 3 ((a3 ++ r3) ++ (a4 ++ r4))) := by
    unfold tB
    simp [vP]
  have hA : (headL ++ vP 1 (a1 ++ r1) ++ [2] ++ wY (a2 ++ r2).length).length = 6 + (vP 1 (a1 ++ r1)).length + (wY (a2 ++ r2).length).length := by
    simp only [List.length_append,headL,List.length_cons,List.length_nil]
    omega
  generalize hhd : headL ++ vP 1 (a1 ++ r1) ++ [2] ++ wY (a2 ++ r2).length = hd at hS hA
  generalize hs1 : (vP 1 (a1 ++ r1)).length = s1 at *
  generalize hs2 : (vP 2 (a2 ++ r2)).length = s2 at *
  generalize hs3 : (vP 3 ((a3 ++ r3) ++ (a4 ++ r4))).length = s3 at *
  generalize hu1 : (wY (a1 ++ r1).length).length = u1 at *
  generalize hu2 : (wY (a2 ++ r2).length).length = u2 at *
  generalize hu3 : (wY ((a3 ++ r3) ++ (a4 ++ r4)).length).length = u3 at *
  have k1 := asc_plc node_pos (6 + (u1 : Int) + a1.length) m1
  have k2 := asc_plc tem_pos (6 + (s1 : Int) + u2 + a2.length) m2
  have k3 := asc_plc edge_pos (6 + (s1 : Int) + s2 + u3 + a3.length) m3
  have k4 := asc_plc sta_pos (6 + (s1 : Int) + s2 + u3 + (a3 ++ r3).length + a4.length) m4
  rw [← q1] at k1
  rw [← q2] at k2
  rw [← q3] at k3
  rw [← q4] at k4
  simp only [List.length_append] at l1 l2 l3 k1 k2 k3 k4
  have hlen : ((tB (a1 ++ r1) (a2 ++ r2) ((a3 ++ r3) ++ (a4 ++ r4))).length : Int) = 5 + (s1 : Int) + s2 + s3 := by rw [lt];omega
  refine ⟨⟨by rw [q1,plc_len],by rw [q2,plc_len],by rw [q3,plc_len],by rw [q4,plc_len]⟩,?_,fun k t ht => ?_⟩
  · rw [hlen]
    refine asc_app (mid := 6 + (s1 : Int) + s2 + u3 + (a3.length + r3.length)) (asc_app (mid := 6 + (s1 : Int) + u2 + (a2.length + r2.length)) (asc_app (mid := 6 + (u1 : Int) + (a1.length + r1.length)) ?_ ?_) ?_) ?_
    · exact asc_lo (by omega) (asc_hi (by omega) k1)
    · exact asc_lo (by omega) (asc_hi (by omega) k2)
    · exact asc_lo (by omega) (asc_hi (by omega) k3)
    · exact asc_lo (by omega) (asc_hi (by omega) k4)
  · obtain ⟨p,hp,ha⟩ := hat k t ht
    obtain ⟨pre,b,post,hr2,hb,hpp⟩ := plc_at (6 + (s1 : Int) + u2 + a2.length) m2 ht
    rw [← q2,hp] at hpp
    obtain rfl := Option.some.inj hpp
    rw [temO'_eq (temO'_ok hb)] at hb
    obtain ⟨pp,cc,hpa,hco,rfl⟩ := xO.1 hb
    obtain ⟨_,_,nn,rr,hn,hrr,rfl⟩ := uW hco
    have c1 : codeAt t (6 + (s1 : Int) + u2 + a2.length + pre.length) = 6 + (s1 : Int) + u2 + a2.length + pre.length + pp.length + nn.length := by
      unfold codeAt
      rw [hpa,hn];rfl
    rw [c1] at ha
    have hnn := numO_pos hn
    have hr2l := congrArg List.length hr2
    simp only [List.length_append] at hr2l
    refine ⟨_,hp,by rw [ha,plc_len],?_,fun j y hy => ?_⟩
    · have ka := asc_plc ins_pos (6 + (s1 : Int) + u2 + a2.length + pre.length + pp.length + nn.length) hrr
      rw [← ha] at ka
      exact asc_lo (by omega) (asc_hi (by omega) ka)
    · obtain ⟨pre',b',post',hrr',hb',hp'⟩ := plc_at (6 + (s1 : Int) + u2 + a2.length + pre.length + pp.length + nn.length) hrr hy
      rw [← ha] at hp'
      obtain ⟨n,tl,h24,hop,rfl⟩ := ins_head y b' hb'
      refine ⟨(hd ++ (a2 ++ (pre ++ (pp ++ (nn ++ pre'))))).length,?_,UInt8.ofNat n,?_,?_⟩
      · rw [hp']
        simp only [List.length_append,hA]
        congr 1
        omega
      · have e : tB (a1 ++ r1) (a2 ++ r2) ((a3 ++ r3) ++ (a4 ++ r4)) = (hd ++ (a2 ++ (pre ++ (pp ++ (nn ++ pre'))))) ++ UInt8.ofNat n :: (tl ++ post' ++ post ++ vP 3 ((a3 ++ r3) ++ (a4 ++ r4))) := by
          rw [hS,hr2,hrr']
          simp
        rw [e]
        exact get_mid _ _ _
      · rw [hop,UInt8.toNat_ofNat_of_lt' (Nat.lt_of_le_of_lt h24 (by decide))]
end Go.Proofs.YtickblndgihoeaaGreatDoor

/- Layer 11: the document's small functions: in,edge,typ,num,layEdge,layType. -/
namespace Go.Proofs.YtickblndgihoeaaGreatDoor
open Go Go.Sp
theorem uH (x y : OB) : (xM x y).isSome = (x.isSome && y.isSome) := by cases x <;> cases y <;> rfl
theorem numO_eq {n m : Int} {b : List UInt8} (h : wK n m = some b) : 0 ≤ n ∧ n ≤ m ∧ b = vJ n := by
  have h1 := numO_le h
  unfold wK at h
  rw [if_pos h1] at h
  cases h
  exact ⟨h1.1,h1.2,rfl⟩
attribute [local irreducible] callFunc Go.method J JL JO JR JR1 JRl Ct JG JM JM1 JW JW1 JQ JQ0 JS CtD xB by8 wK
theorem din_c (n most : Int) : Ct Tryz.prog 121 #[.int .i64 n,.int .i64 most] [] (wF (.bool (wK n most).isSome) []) := by
  by_cases h1 : 0 ≤ n
  · by_cases h2 : n ≤ most
    · rw [numO_in ⟨h1,h2⟩]
      refine yE (vs := [_,_]) Tryz.func121 rfl Tryz.ntmps121 (by simp) ?_
      repeat (first|(first|refine zB ?_|refine zE ?_|refine zG ?_|refine zV ?_)|(first|((first|refine zA rfl ?_|refine zZ rfl rfl ?_);first|refine JOq (JQ_leqT rfl rfl (by omega)) rfl ?_|refine JOq (JQ_geqT rfl rfl (by omega)) rfl ?_|refine zD rfl rfl ?_|refine zC rfl rfl ?_|refine yA rfl rfl rfl ?_)))
      exact zY rfl rfl .nil
    · rw [numO_out (fun h => h2 h.2)]
      refine yE (vs := [_,_]) Tryz.func121 rfl Tryz.ntmps121 (by simp) ?_
      repeat (first|(first|refine zB ?_|refine zE ?_|refine zG ?_|refine zV ?_)|(first|((first|refine zA rfl ?_|refine zZ rfl rfl ?_);first|refine JOq (JQ_leqF rfl rfl (by omega)) rfl ?_|refine JOq (JQ_geqT rfl rfl (by omega)) rfl ?_|refine zD rfl rfl ?_|refine zC rfl rfl ?_|refine yA rfl rfl rfl ?_)))
      exact zY rfl rfl .nil
  · rw [numO_out (fun h => h1 h.1)]
    refine yE (vs := [_,_]) Tryz.func121 rfl Tryz.ntmps121 (by simp) ?_
    repeat (first|(first|refine zB ?_|refine zE ?_|refine zG ?_|refine zV ?_)|(first|((first|refine zA rfl ?_);first|refine JOq (JQ_geqF rfl rfl (by omega)) rfl ?_|refine zD rfl rfl ?_|refine zC rfl rfl ?_|refine yJ rfl rfl rfl ?_)|refine yU rfl rfl rfl ?_))
    exact zY rfl rfl .nil
theorem dedge_c (e : Int × Int) : Ct Tryz.prog 120 #[.agg (yI e).toArray] [] (wF (.bool (xV e).isSome) []) := by
  obtain ⟨a,b⟩ := e
  have c1 := din_c a 63
  have c2 := din_c b 1000
  rw [show (xV (a,b)).isSome = ((wK a 63).isSome && (wK b 1000).isSome) from uH _ _]
  generalize (wK a 63).isSome = p at *
  generalize (wK b 1000).isSome = q at *
  refine yE (vs := [_]) Tryz.func120 rfl Tryz.ntmps120 (by simp) ?_
  cases p <;> cases q
  all_goals
    repeat (first|(first|refine zB ?_|refine zE ?_|refine zG ?_|refine zV ?_)|(first|((first|refine zA rfl ?_|refine zZ rfl rfl ?_);first|refine zD rfl rfl ?_|refine zC rfl rfl ?_|refine zF rfl rfl ?_|refine zH rfl rfl ?_|refine yA rfl rfl rfl ?_|refine yJ rfl rfl rfl ?_|refine yN rfl rfl (fun r => ?_)|refine zR rfl (c1) rfl ?_|refine zR rfl (c2) rfl ?_)|refine yU rfl rfl rfl ?_))
    exact zY rfl rfl .nil
theorem dtyp_c (e : Int × Int) : Ct Tryz.prog 66 #[.agg (yI e).toArray] [] (wF (.bool (xV e).isSome) []) := by
  obtain ⟨a,b⟩ := e
  have c1 := din_c a 63
  have c2 := din_c b 1000
  rw [show (xV (a,b)).isSome = ((wK a 63).isSome && (wK b 1000).isSome) from uH _ _]
  generalize (wK a 63).isSome = p at *
  generalize (wK b 1000).isSome = q at *
  refine yE (vs := [_]) Tryz.func66 rfl Tryz.ntmps66 (by simp) ?_
  cases p <;> cases q
  all_goals
    repeat (first|(first|refine zB ?_|refine zE ?_|refine zG ?_|refine zV ?_)|(first|((first|refine zA rfl ?_|refine zZ rfl rfl ?_);first|refine zD rfl rfl ?_|refine zC rfl rfl ?_|refine zF rfl rfl ?_|refine zH rfl rfl ?_|refine yA rfl rfl rfl ?_|refine yJ rfl rfl rfl ?_|refine yN rfl rfl (fun r => ?_)|refine zR rfl (c1) rfl ?_|refine zR rfl (c2) rfl ?_)|refine yU rfl rfl rfl ?_))
    exact zY rfl rfl .nil
theorem dnum_c (n : Int) (h : 0 ≤ n ∧ n < 9223372036854775808) : Ct Tryz.prog 24 #[.int .i64 n] [] (wF (str (vJ n)) []) := by
  obtain ⟨k,rfl⟩ := Int.eq_ofNat_of_zero_le h.1
  have c := bytes_c k (by omega)
  rw [show vJ (k : Int) = wY k by unfold vJ;rw [Int.toNat_natCast]]
  refine yE (vs := [_]) Tryz.func24 rfl Tryz.ntmps24 (by simp) ?_
  repeat (first|(first|refine zB ?_|refine zE ?_|refine zG ?_|refine zV ?_)|(first|((first|refine zA rfl ?_);first|refine JOq (yX (a := k) rfl (xX (by omega))) rfl ?_|refine zD rfl rfl ?_|refine zC rfl rfl ?_|refine zR rfl (c) rfl ?_)))
  exact zY rfl rfl .nil
theorem dlayEdge_c {e : Int × Int} {b : List UInt8} (h : xV e = some b) : Ct Tryz.prog 69 #[.agg (yI e).toArray] [] (wF (str b) []) := by
  obtain ⟨x,y⟩ := e
  obtain ⟨a1,a2,h1,h2,rfl⟩ := xO.1 (show xM (wK x 63) (wK y 1000) = some b from h)
  have l1 := vA h1 (by decide)
  have l2 := vA h2 (by decide)
  obtain ⟨g1,g2,rfl⟩ := numO_eq h1
  obtain ⟨g3,g4,rfl⟩ := numO_eq h2
  have c1 := dnum_c x (by omega)
  have c2 := dnum_c y (by omega)
  refine yE (vs := [_]) Tryz.func69 rfl Tryz.ntmps69 (by simp) ?_
  repeat (first|(first|refine zB ?_|refine zE ?_|refine zG ?_)|(first|((first|refine zA rfl ?_);first|refine zC rfl rfl ?_|refine yN rfl rfl (fun r => ?_))))
  repeat (first|refine vO ?_|refine tA rfl ?_|refine JG_n rfl rfl rfl (by kernel_rfl) (by kernel_rfl) rfl Ent.sel (by first|exact uQ rfl rfl (by omega)|exact tC rfl (wB rfl)|exact vT rfl|exact xP rfl) ?_|refine JG_jo rfl rfl rfl uX (zR rfl (c1) rfl ⟨Ent.sel,?_⟩)|refine JG_jo rfl rfl rfl uX (zR rfl (c2) rfl ⟨Ent.sel,?_⟩))
  repeat (first|(first|refine zV ?_)|(first|((first|refine zA rfl ?_);first|refine zD rfl rfl ?_)))
  exact zY rfl rfl .nil
theorem dlayType_c {e : Int × Int} {b : List UInt8} (h : xV e = some b) : Ct Tryz.prog 27 #[.agg (yI e).toArray] [] (wF (str b) []) := by
  obtain ⟨x,y⟩ := e
  obtain ⟨a1,a2,h1,h2,rfl⟩ := xO.1 (show xM (wK x 63) (wK y 1000) = some b from h)
  have l1 := vA h1 (by decide)
  have l2 := vA h2 (by decide)
  obtain ⟨g1,g2,rfl⟩ := numO_eq h1
  obtain ⟨g3,g4,rfl⟩ := numO_eq h2
  have c1 := dnum_c x (by omega)
  have c2 := dnum_c y (by omega)
  refine yE (vs := [_]) Tryz.func27 rfl Tryz.ntmps27 (by simp) ?_
  repeat (first|(first|refine zB ?_|refine zE ?_|refine zG ?_)|(first|((first|refine zA rfl ?_);first|refine zC rfl rfl ?_|refine yN rfl rfl (fun r => ?_))))
  repeat (first|refine vO ?_|refine tA rfl ?_|refine JG_n rfl rfl rfl (by kernel_rfl) (by kernel_rfl) rfl Ent.sel (by first|exact uQ rfl rfl (by omega)|exact tC rfl (wB rfl)|exact vT rfl|exact xP rfl) ?_|refine JG_jo rfl rfl rfl uX (zR rfl (c1) rfl ⟨Ent.sel,?_⟩)|refine JG_jo rfl rfl rfl uX (zR rfl (c2) rfl ⟨Ent.sel,?_⟩))
  repeat (first|(first|refine zV ?_)|(first|((first|refine zA rfl ?_);first|refine zD rfl rfl ?_)))
  exact zY rfl rfl .nil
end Go.Proofs.YtickblndgihoeaaGreatDoor

/- Layer 11: the document's node,template,start,May. -/
namespace Go.Proofs.YtickblndgihoeaaGreatDoor
open Go Go.Sp
theorem eq_iiF {t a b : TypeId} {k q : IntKind} [FT Tryz.prog t [(a,0),(b,1)]] [TU Tryz.prog a (.int k)] [TU Tryz.prog b (.int q)] {u v : IntKind} {m n m' n' : Int} (h : ¬ (m = m' ∧ n = n')) (e : Nat) (w : World) : (Op.equalIn (e + 2) t (.agg #[.int u m,.int v n]) (.agg #[.int u m',.int v n'])).run Tryz.prog w = .ok false w := by
  rw [eq_ii]
  have : ((m == m') && (n == n')) = false := by
    simp only [Bool.and_eq_false_iff,beq_eq_false_iff_ne]
    by_cases hm : m = m'
    · exact .inr fun hn => h ⟨hm,hn⟩
    · exact .inl hm
  rw [this]
theorem mustO_isSome (b : Bool) : (wV b).isSome = b := by cases b <;> rfl
theorem take_good {α : Type} {q : α → Prop} {l : List α} {i : Nat} {x : α} (hx : l[i]? = some x) (h : ∀ y ∈ l.take i,q y) (hb : q x) : ∀ y ∈ l.take (i + 1),q y := fun y hy => by
  rw [List.take_add_one,hx] at hy
  rcases List.mem_append.1 hy with h1 | h1
  · exact h y h1
  · simp at h1;rw [h1];exact hb
theorem isSome_f {x : OB} (h : x.isSome = false) : x = none := by cases x with
  | none => rfl
  | some b => cases h
theorem mapO_isSome {α : Type} {o : α → OB} : ∀ {l : List α},(∀ x ∈ l,(o x).isSome = true) → (uY o l).isSome = true
  | [],_ => rfl
  | x :: l,h => by
    show (xM (o x) (uY o l)).isSome = true
    rw [uH,h x (List.mem_cons_self ..),mapO_isSome fun y hy => h y (List.mem_cons_of_mem _ hy)]
    rfl
theorem numO_is (n most : Int) : (wK n most).isSome = decide (0 ≤ n ∧ n ≤ most) := by
  by_cases h : 0 ≤ n ∧ n ≤ most
  · rw [numO_in h];simp [h]
  · rw [numO_out h];simp [h]
theorem listO_is {α : Type} {least most : Int} {o : α → OB} {l : List α} (h : ∀ x ∈ l,(o x).isSome = true) : (wH least most o l).isSome = (decide (least ≤ (l.length : Int)) && decide ((l.length : Int) ≤ most)) := by
  by_cases h1 : least ≤ (l.length : Int)
  · rw [uR h1,uH,mapO_isSome h,numO_is]
    have : (0 : Int) ≤ (l.length : Int) := by omega
    simp [h1]
  · rw [listO_few h1];simp [h1]
theorem listO_no {α : Type} {least most : Int} {o : α → OB} {l : List α} {x : α} (hx : x ∈ l) (h : o x = none) : wH least most o l = none := by
  by_cases h1 : least ≤ (l.length : Int)
  · rw [uR h1,mapO_bad h hx,catO_none']
  · rw [listO_few h1]
theorem oneO_bad2 {l : List (Int × Int)} {e : Int × Int} (he : e ∈ l) (h : xV e = none) : oneO l = none := by
  rcases l with _ | ⟨a,_ | ⟨b,l⟩⟩
  · rfl
  · rw [List.mem_singleton] at he;subst he;exact h
  · rfl
theorem node_edgeno {n : Nod} {e : Int × Int} (he : e ∈ n.next) (h : xV e = none) : wJ n = none := by
  unfold wJ
  have hl : ¬ ((n.next.length : Int) = 0) := by
    have := List.length_pos_of_mem he
    omega
  have hne : n.next ≠ [] := fun h0 => hl (by rw [h0];rfl)
  rw [oneO_bad2 he h,listO_no he h]
  simp [hne,wV]
theorem node_payno {n : Nod} (h : payOk n = false) : wJ n = none := by
  unfold wJ
  rw [h]
  simp [wV]
def nodeV (n : Nod) : Bool :=
  if n.kind = 0 then decide (n.prio = 0) && (!n.ch && decide ((n.next.length : Int) = 0))
  else if n.kind = 5 then decide (n.prio = 0) && (!n.ch && decide ((n.next.length : Int) = 1))
  else if n.kind = 1 ∨ n.kind = 2 then (wK n.prio 1000).isSome && ((xV n.pay).isSome && decide ((n.next.length : Int) = 1))
  else if n.kind = 3 ∨ n.kind = 4 then (wK n.prio 1000).isSome && (!n.ch && (decide (1 ≤ (n.next.length : Int)) && decide ((n.next.length : Int) ≤ 8)))
  else false
theorem one_is {l : List (Int × Int)} (h : ∀ e ∈ l,(xV e).isSome = true) : (oneO l).isSome = decide ((l.length : Int) = 1) := by
  rcases l with _ | ⟨a,_ | ⟨b,l⟩⟩
  · rfl
  · rw [show oneO [a] = xV a from rfl,h a (by simp)];simp
  · have : ¬ (((a :: b :: l).length : Int) = 1) := by simp only [List.length_cons];omega
    rw [show oneO (a :: b :: l) = none from rfl];simp only [this,decide_false];rfl
theorem node_is {n : Nod} (h : ∀ e ∈ n.next,(xV e).isSome = true) (hp : payOk n = true) : (wJ n).isSome = nodeV n := by
  unfold wJ nodeV
  split
  · simp only [uH,mustO_isSome,numO_is,hp];simp
  split
  · simp only [uH,mustO_isSome,numO_is,hp,one_is h];simp
  split
  · rename_i h12
    have hk : (wK n.kind 5).isSome = true := by rw [numO_is];simp;omega
    have hf : (flagO n.ch).isSome = true := rfl
    have hpay : (if n.ch = true then xV n.pay else some []).isSome = (xV n.pay).isSome := by
      cases hc : n.ch with
      | true => rfl
      | false =>
        unfold payOk at hp
        rw [hc] at hp
        simp at hp
        have : n.pay = (0,0) := Prod.ext hp.1 hp.2
        rw [this,show xV (0,0) = xM (wK 0 63) (wK 0 1000) from rfl,uH,numO_is,numO_is]
        rfl
    simp only [uH,mustO_isSome,hp,one_is h,hk,hf,hpay];simp
  split
  · rename_i h34
    have hk : (wK n.kind 5).isSome = true := by rw [numO_is];simp;omega
    simp only [uH,mustO_isSome,hp,listO_is h,hk];simp
  · rfl
attribute [local irreducible] callFunc Go.method J JL JO JR JR1 JRl Ct JG JM JM1 JW JW1 JQ JQ0 JS CtD xB ints by8 chkA tJ yB uK wZ temO wJ staO sec1O sec2O sec3O wK xV oneO wH nodeV
set_option maxHeartbeats 4000000 in
theorem dnode_c (n : Nod) (hb : n.next.length ≤ 100000) : Ct Tryz.prog 64 #[.agg (xR n).toArray] [wG n] (wF (.bool (wJ n).isSome) []) := by
  have hno : ∀ e ∈ n.next,xV e = none → (wJ n).isSome = false := fun e he h => by rw [node_edgeno he h];rfl
  have hpn : payOk n = false → (wJ n).isSome = false := fun h => by rw [node_payno h];rfl
  have hok : (∀ e ∈ n.next,(xV e).isSome = true) → payOk n = true → (wJ n).isSome = nodeV n := node_is
  obtain ⟨v,hv⟩ : ∃ v,v = (wJ n).isSome := ⟨_,rfl⟩
  rw [← hv] at hno hpn hok ⊢
  clear hv
  obtain ⟨kind,prio,ch,⟨e1,e2⟩,next,⟨pn,kn⟩⟩ := n
  dsimp only at hb hno hok
  refine yE (vs := [.agg [.int .i64 kind,.int .i64 prio,.bool ch,.int .i64 e1,.int .i64 e2,slc (pn,kn) next.length].toArray]) Tryz.func64 rfl Tryz.ntmps64 (by simp) ?_
  repeat (first|(first|refine zB ?_|refine zE ?_|refine zG ?_)|(first|((first|refine zA rfl ?_);first|refine zC rfl rfl ?_|refine yN rfl rfl (fun r => ?_))))
  revert r
  intro n1
  refine uI (α := { _u : Unit // ∀ x ∈ next,(xV x).isSome = true }) (fun _ => [(1,ptr n1)]) (fun _ => [pt n1 (.cells [.int .i64 kind,.int .i64 prio,.bool ch,.int .i64 e1,.int .i64 e2,slc (pn,kn) next.length].toArray 58 (0,0)),Vw 2 (slc (pn,kn) next.length) next.length (next.flatMap yI)]) ?_ ?_
  · repeat (first|(first|refine zK ?_)|(first|((first|refine zA rfl ?_);first|refine zD rfl rfl ?_)))
    refine xU (β := { i : Nat // i ≤ next.length ∧ ∀ x ∈ next.take i,(xV x).isSome = true }) (fun i => [(1,ptr n1),(3,.int .i64 (i.1 : Int))]) (fun _ => []) (fun _ => [pt n1 (.cells [.int .i64 kind,.int .i64 prio,.bool ch,.int .i64 e1,.int .i64 e2,slc (pn,kn) next.length].toArray 58 (0,0)),Vw 2 (slc (pn,kn) next.length) next.length (next.flatMap yI)]) (fun i => next.length - i.1) ⟨0,by omega,by simp⟩ ?_ rfl Ent.sel ?_
    · (repeat (first|exact zM _|refine zI rfl ?_))
    rintro ⟨i,hi,hg⟩
    dsimp only
    by_cases hil : i < next.length
    · obtain ⟨x,hx⟩ : ∃ x,next[i]? = some x := ⟨_,List.getElem?_eq_getElem hil⟩
      have hxm := List.mem_of_getElem? hx
      refine wE (φ := ∃ b o,pn = some ⟨b,o,none⟩) (fun F w hs => (Ent.sel (K := [Vw 2 (slc (pn,kn) next.length) next.length (next.flatMap yI)]) F w hs).tail.out (fun k hk => xW (by omega) k hk)) (fun hp => ?_)
      obtain ⟨q1,o1,rfl⟩ := hp
      have c := dedge_c x
      cases hb : (xV x).isSome with
      | false =>
        rw [hb] at c
        obtain rfl := hno x hxm (isSome_f hb)
        repeat (first|(first|refine zB ?_|refine zE ?_|refine zG ?_|refine zK ?_|refine zP ?_|refine zL rfl ?_|refine zV ?_)|(first|((first|refine zA rfl ?_);first|refine JOq (yH rfl rfl (by omega)) rfl ?_|refine wI rfl rfl hil rfl ?_|refine JOq (xF (yI x) rfl (fun u z hu => xG (b := q1) (o := o1) (n := next.length) (cap := kn) (j := i) hil (by rw [yY edgeC_len _ _ _ _ (by have := (List.getElem?_eq_some_iff.1 hu).1;exact this) hx];exact hu)) rfl) rfl ?_|refine zD rfl rfl ?_|refine zC rfl rfl ?_|refine yF rfl rfl ?_|refine zF rfl rfl ?_|refine zH rfl rfl ?_|refine xD rfl rfl ?_|refine zR rfl (c) rfl ?_)))
        exact zY rfl rfl .nil
      | true =>
        rw [hb] at c
        repeat (first|(first|refine zB ?_|refine zE ?_|refine zG ?_|refine zK ?_|refine zP ?_|refine zL rfl ?_|refine zJ rfl ?_)|(first|((first|refine zA rfl ?_);first|refine JOq (yH rfl rfl (by omega)) rfl ?_|refine wI rfl rfl hil rfl ?_|refine JOq (xF (yI x) rfl (fun u z hu => xG (b := q1) (o := o1) (n := next.length) (cap := kn) (j := i) hil (by rw [yY edgeC_len _ _ _ _ (by have := (List.getElem?_eq_some_iff.1 hu).1;exact this) hx];exact hu)) rfl) rfl ?_|refine yZ (b := 1) rfl rfl (by omega) rfl ?_|refine zD rfl rfl ?_|refine zC rfl rfl ?_|refine yF rfl rfl ?_|refine zF rfl rfl ?_|refine zH rfl rfl ?_|refine xD rfl rfl ?_|refine zR rfl (c) rfl ?_)))
        exact ⟨⟨i + 1,by omega,take_good hx hg hb⟩,by simp only;omega,by (repeat (first|exact zM _|refine zI rfl ?_)),rfl,Ent.sel⟩
    · obtain rfl : i = next.length := by omega
      rw [List.take_length] at hg
      repeat (first|(first|refine zB ?_|refine zE ?_|refine zG ?_|refine zJ rfl ?_|refine xA ?_)|(first|((first|refine zA rfl ?_);first|refine JOq (yS rfl rfl (by omega)) rfl ?_|refine zD rfl rfl ?_|refine yF rfl rfl ?_|refine zF rfl rfl ?_|refine zH rfl rfl ?_)))
      exact ⟨⟨(),hg⟩,by (repeat (first|exact zM _|refine zI rfl ?_)),rfl,Ent.sel⟩
  rintro ⟨⟨⟩,hg⟩
  dsimp only [thn]
  by_cases hpk : ch = false ∧ ¬ (e1 = 0 ∧ e2 = 0)
  · obtain rfl := hpn (by unfold payOk;dsimp only;rw [hpk.1];simp;exact fun h1 h2 => hpk.2 ⟨h1,h2⟩)
    obtain ⟨rfl,hne⟩ := hpk
    repeat (first|(first|refine zB ?_|refine zE ?_|refine zG ?_|refine zL rfl ?_|refine zV ?_)|(first|((first|refine zA rfl ?_|refine zZ rfl rfl ?_);first|refine JOq (JQ_neAgg (r := false) rfl rfl (eq_iiF hne 9998)) rfl ?_|refine xI rfl (by simp) rfl ?_|refine yG (cs := yI (0,0)) rfl rfl rfl ?_|refine zD rfl rfl ?_|refine zC rfl rfl ?_|refine zF rfl rfl ?_|refine zH rfl rfl ?_|refine yA rfl rfl rfl ?_|refine xD rfl rfl ?_)))
    exact zY rfl rfl .nil
  have hk : payOk (⟨kind,prio,ch,(e1,e2),next,(pn,kn)⟩ : Nod) = true := by
    unfold payOk
    cases ch with
    | true => rfl
    | false => simp at hpk ⊢;exact hpk
  obtain rfl := hok hg hk
  have pay0 : ch = false → e1 = 0 ∧ e2 = 0 := fun h => by simp [h] at hpk;exact hpk
  clear hno hpn hk hpk
  refine zG ?_
  refine uI (α := Unit) (fun _ => [(1,ptr n1)]) (fun _ => [pt n1 (.cells [.int .i64 kind,.int .i64 prio,.bool ch,.int .i64 e1,.int .i64 e2,slc (pn,kn) next.length].toArray 58 (0,0))]) ?_ ?_
  · cases ch with
    | true =>
      repeat (first|(first|refine zB ?_|refine zE ?_|refine zG ?_|refine zP ?_|refine zJ rfl ?_)|(first|((first|refine zA rfl ?_);first|refine zD rfl rfl ?_|refine zF rfl rfl ?_|refine zH rfl rfl ?_|refine yJ rfl rfl rfl ?_|refine xD rfl rfl ?_)|refine yU rfl rfl rfl ?_))
      exact ⟨(),by (repeat (first|exact zM _|refine zI rfl ?_)),rfl,Ent.sel⟩
    | false =>
      obtain ⟨rfl,rfl⟩ := pay0 rfl
      repeat (first|(first|refine zB ?_|refine zE ?_|refine zG ?_|refine zP ?_|refine zJ rfl ?_)|(first|((first|refine zA rfl ?_|refine zZ rfl rfl ?_);first|refine JOq (JQ_neAgg (r := true) rfl rfl (eq_iiS 0 0 9998)) rfl ?_|refine xI rfl (by simp) rfl ?_|refine yG (cs := yI (0,0)) rfl rfl rfl ?_|refine zD rfl rfl ?_|refine zF rfl rfl ?_|refine zH rfl rfl ?_|refine yA rfl rfl rfl ?_|refine xD rfl rfl ?_)))
      exact ⟨(),by (repeat (first|exact zM _|refine zI rfl ?_)),rfl,Ent.sel⟩
  rintro ⟨⟩
  dsimp only [thn]
  have ci := din_c prio 1000
  have ce := dedge_c (e1,e2)
  have hlow : 0 ≤ (next.length : Int) := by omega
  obtain ⟨v,hv⟩ : ∃ v,v = nodeV (⟨kind,prio,ch,(e1,e2),next,(pn,kn)⟩ : Nod) := ⟨_,rfl⟩
  rw [← hv]
  unfold nodeV at hv
  dsimp only at hv
  obtain ⟨N,hN⟩ : ∃ N : Int,N = next.length := ⟨_,rfl⟩
  rw [← hN] at hv
  by_cases k0 : kind = 0
  · subst k0
    by_cases hp : prio = 0
    · cases ch with
      | true =>
        obtain rfl : v = false := by rw [hv];simp [hp]
        repeat (first|(first|refine zB ?_|refine zE ?_|refine zG ?_|refine zK ?_|refine zL rfl ?_|refine zV ?_)|(first|((first|refine zA rfl ?_|refine zZ rfl rfl ?_);first|refine JOq (yT rfl rfl (by omega)) rfl ?_|refine zD rfl rfl ?_|refine zC rfl rfl ?_|refine zF rfl rfl ?_|refine zH rfl rfl ?_|refine yA rfl rfl rfl ?_|refine yJ rfl rfl rfl ?_|refine xD rfl rfl ?_)|refine yU rfl rfl rfl ?_))
        exact zY rfl rfl .nil
      | false =>
        by_cases hl : N = 0
        · skip
          obtain rfl : v = true := by rw [hv];simp [hp,hl]
          repeat (first|(first|refine zB ?_|refine zE ?_|refine zG ?_|refine zK ?_|refine zL rfl ?_|refine zV ?_)|(first|((first|refine zA rfl ?_|refine zZ rfl rfl ?_);first|refine JOq (yT rfl rfl (by omega)) rfl ?_|refine zD rfl rfl ?_|refine zC rfl rfl ?_|refine yF rfl rfl ?_|refine zF rfl rfl ?_|refine zH rfl rfl ?_|refine yA rfl rfl rfl ?_|refine xD rfl rfl ?_)))
          exact zY rfl rfl .nil
        · skip
          obtain rfl : v = false := by rw [hv];simp [hp,hl]
          repeat (first|(first|refine zB ?_|refine zE ?_|refine zG ?_|refine zK ?_|refine zL rfl ?_|refine zV ?_)|(first|((first|refine zA rfl ?_|refine zZ rfl rfl ?_);first|refine JOq (yT rfl rfl (by omega)) rfl ?_|refine JOq (yL rfl rfl (by omega)) rfl ?_|refine zD rfl rfl ?_|refine zC rfl rfl ?_|refine yF rfl rfl ?_|refine zF rfl rfl ?_|refine zH rfl rfl ?_|refine yA rfl rfl rfl ?_|refine xD rfl rfl ?_)))
          exact zY rfl rfl .nil
    · skip
      obtain rfl : v = false := by rw [hv];simp [hp]
      repeat (first|(first|refine zB ?_|refine zE ?_|refine zG ?_|refine zK ?_|refine zL rfl ?_|refine zV ?_)|(first|((first|refine zA rfl ?_);first|refine JOq (yT rfl rfl (by omega)) rfl ?_|refine JOq (yL rfl rfl (by omega)) rfl ?_|refine zD rfl rfl ?_|refine zC rfl rfl ?_|refine zF rfl rfl ?_|refine zH rfl rfl ?_|refine yJ rfl rfl rfl ?_)|refine yU rfl rfl rfl ?_))
      exact zY rfl rfl .nil
  by_cases k5 : kind = 5
  · subst k5
    by_cases hp : prio = 0
    · cases ch with
      | true =>
        obtain rfl : v = false := by rw [hv];simp [hp]
        repeat (first|(first|refine zB ?_|refine zE ?_|refine zG ?_|refine zK ?_|refine zL rfl ?_|refine zJ rfl ?_|refine zV ?_)|(first|((first|refine zA rfl ?_|refine zZ rfl rfl ?_);first|refine JOq (yT rfl rfl (by omega)) rfl ?_|refine JOq (yL rfl rfl (by omega)) rfl ?_|refine zD rfl rfl ?_|refine zC rfl rfl ?_|refine zF rfl rfl ?_|refine zH rfl rfl ?_|refine yA rfl rfl rfl ?_|refine yJ rfl rfl rfl ?_|refine xD rfl rfl ?_)|refine yU rfl rfl rfl ?_))
        exact zY rfl rfl .nil
      | false =>
        by_cases hl : N = 1
        · skip
          obtain rfl : v = true := by rw [hv];simp [hp,hl]
          repeat (first|(first|refine zB ?_|refine zE ?_|refine zG ?_|refine zK ?_|refine zL rfl ?_|refine zJ rfl ?_|refine zV ?_)|(first|((first|refine zA rfl ?_|refine zZ rfl rfl ?_);first|refine JOq (yT rfl rfl (by omega)) rfl ?_|refine JOq (yL rfl rfl (by omega)) rfl ?_|refine zD rfl rfl ?_|refine zC rfl rfl ?_|refine yF rfl rfl ?_|refine zF rfl rfl ?_|refine zH rfl rfl ?_|refine yA rfl rfl rfl ?_|refine xD rfl rfl ?_)))
          exact zY rfl rfl .nil
        · skip
          obtain rfl : v = false := by rw [hv];simp [hp,hl]
          repeat (first|(first|refine zB ?_|refine zE ?_|refine zG ?_|refine zK ?_|refine zL rfl ?_|refine zJ rfl ?_|refine zV ?_)|(first|((first|refine zA rfl ?_|refine zZ rfl rfl ?_);first|refine JOq (yT rfl rfl (by omega)) rfl ?_|refine JOq (yL rfl rfl (by omega)) rfl ?_|refine zD rfl rfl ?_|refine zC rfl rfl ?_|refine yF rfl rfl ?_|refine zF rfl rfl ?_|refine zH rfl rfl ?_|refine yA rfl rfl rfl ?_|refine xD rfl rfl ?_)))
          exact zY rfl rfl .nil
    · skip
      obtain rfl : v = false := by rw [hv];simp [hp]
      repeat (first|(first|refine zB ?_|refine zE ?_|refine zG ?_|refine zK ?_|refine zL rfl ?_|refine zJ rfl ?_|refine zV ?_)|(first|((first|refine zA rfl ?_);first|refine JOq (yT rfl rfl (by omega)) rfl ?_|refine JOq (yL rfl rfl (by omega)) rfl ?_|refine zD rfl rfl ?_|refine zC rfl rfl ?_|refine zF rfl rfl ?_|refine zH rfl rfl ?_|refine yJ rfl rfl rfl ?_)|refine yU rfl rfl rfl ?_))
      exact zY rfl rfl .nil
  by_cases k1 : kind = 1
  · subst k1
    cases ha : (wK prio 1000).isSome with
    | false =>
      rw [ha] at ci
      obtain rfl : v = false := by rw [hv];simp [ha]
      repeat (first|(first|refine zB ?_|refine zE ?_|refine zG ?_|refine zK ?_|refine zP ?_|refine zL rfl ?_|refine zJ rfl ?_|refine zV ?_)|(first|((first|refine zA rfl ?_);first|refine JOq (yT rfl rfl (by omega)) rfl ?_|refine JOq (yL rfl rfl (by omega)) rfl ?_|refine zD rfl rfl ?_|refine zC rfl rfl ?_|refine zF rfl rfl ?_|refine zH rfl rfl ?_|refine yJ rfl rfl rfl ?_|refine zR rfl (ci) rfl ?_)|refine yU rfl rfl rfl ?_))
      exact zY rfl rfl .nil
    | true =>
      rw [ha] at ci
      cases hb : (xV (e1,e2)).isSome with
      | false =>
        rw [hb] at ce
        obtain rfl : v = false := by rw [hv];simp [ha,hb]
        repeat (first|(first|refine zB ?_|refine zE ?_|refine zG ?_|refine zK ?_|refine zP ?_|refine zL rfl ?_|refine zJ rfl ?_|refine zV ?_)|(first|((first|refine zA rfl ?_|refine zZ rfl rfl ?_);first|refine JOq (yT rfl rfl (by omega)) rfl ?_|refine JOq (yL rfl rfl (by omega)) rfl ?_|refine xI rfl (by simp) rfl ?_|refine zD rfl rfl ?_|refine zC rfl rfl ?_|refine zF rfl rfl ?_|refine zH rfl rfl ?_|refine yA rfl rfl rfl ?_|refine yJ rfl rfl rfl ?_|refine zR rfl (ci) rfl ?_|refine zR rfl (ce) rfl ?_)|refine yU rfl rfl rfl ?_))
        exact zY rfl rfl .nil
      | true =>
        rw [hb] at ce
        by_cases hl : N = 1
        · skip
          obtain rfl : v = true := by rw [hv];simp [ha,hb,hl]
          repeat (first|(first|refine zB ?_|refine zE ?_|refine zG ?_|refine zK ?_|refine zP ?_|refine zL rfl ?_|refine zJ rfl ?_|refine zV ?_)|(first|((first|refine zA rfl ?_|refine zZ rfl rfl ?_);first|refine JOq (yT rfl rfl (by omega)) rfl ?_|refine JOq (yL rfl rfl (by omega)) rfl ?_|refine xI rfl (by simp) rfl ?_|refine zD rfl rfl ?_|refine zC rfl rfl ?_|refine yF rfl rfl ?_|refine zF rfl rfl ?_|refine zH rfl rfl ?_|refine yA rfl rfl rfl ?_|refine zR rfl (ci) rfl ?_|refine zR rfl (ce) rfl ?_)))
          exact zY rfl rfl .nil
        · skip
          obtain rfl : v = false := by rw [hv];simp [ha,hb,hl]
          repeat (first|(first|refine zB ?_|refine zE ?_|refine zG ?_|refine zK ?_|refine zP ?_|refine zL rfl ?_|refine zJ rfl ?_|refine zV ?_)|(first|((first|refine zA rfl ?_|refine zZ rfl rfl ?_);first|refine JOq (yT rfl rfl (by omega)) rfl ?_|refine JOq (yL rfl rfl (by omega)) rfl ?_|refine xI rfl (by simp) rfl ?_|refine zD rfl rfl ?_|refine zC rfl rfl ?_|refine yF rfl rfl ?_|refine zF rfl rfl ?_|refine zH rfl rfl ?_|refine yA rfl rfl rfl ?_|refine zR rfl (ci) rfl ?_|refine zR rfl (ce) rfl ?_)))
          exact zY rfl rfl .nil
  by_cases k2 : kind = 2
  · subst k2
    cases ha : (wK prio 1000).isSome with
    | false =>
      rw [ha] at ci
      obtain rfl : v = false := by rw [hv];simp [ha]
      repeat (first|(first|refine zB ?_|refine zE ?_|refine zG ?_|refine zK ?_|refine zL rfl ?_|refine zJ rfl ?_|refine zV ?_)|(first|((first|refine zA rfl ?_);first|refine JOq (yT rfl rfl (by omega)) rfl ?_|refine JOq (yL rfl rfl (by omega)) rfl ?_|refine zD rfl rfl ?_|refine zC rfl rfl ?_|refine zF rfl rfl ?_|refine zH rfl rfl ?_|refine yJ rfl rfl rfl ?_|refine zR rfl (ci) rfl ?_)|refine yU rfl rfl rfl ?_))
      exact zY rfl rfl .nil
    | true =>
      rw [ha] at ci
      cases hb : (xV (e1,e2)).isSome with
      | false =>
        rw [hb] at ce
        obtain rfl : v = false := by rw [hv];simp [ha,hb]
        repeat (first|(first|refine zB ?_|refine zE ?_|refine zG ?_|refine zK ?_|refine zL rfl ?_|refine zJ rfl ?_|refine zV ?_)|(first|((first|refine zA rfl ?_|refine zZ rfl rfl ?_);first|refine JOq (yT rfl rfl (by omega)) rfl ?_|refine JOq (yL rfl rfl (by omega)) rfl ?_|refine xI rfl (by simp) rfl ?_|refine zD rfl rfl ?_|refine zC rfl rfl ?_|refine zF rfl rfl ?_|refine zH rfl rfl ?_|refine yA rfl rfl rfl ?_|refine yJ rfl rfl rfl ?_|refine zR rfl (ci) rfl ?_|refine zR rfl (ce) rfl ?_)|refine yU rfl rfl rfl ?_))
        exact zY rfl rfl .nil
      | true =>
        rw [hb] at ce
        by_cases hl : N = 1
        · skip
          obtain rfl : v = true := by rw [hv];simp [ha,hb,hl]
          repeat (first|(first|refine zB ?_|refine zE ?_|refine zG ?_|refine zK ?_|refine zL rfl ?_|refine zJ rfl ?_|refine zV ?_)|(first|((first|refine zA rfl ?_|refine zZ rfl rfl ?_);first|refine JOq (yT rfl rfl (by omega)) rfl ?_|refine JOq (yL rfl rfl (by omega)) rfl ?_|refine xI rfl (by simp) rfl ?_|refine zD rfl rfl ?_|refine zC rfl rfl ?_|refine yF rfl rfl ?_|refine zF rfl rfl ?_|refine zH rfl rfl ?_|refine yA rfl rfl rfl ?_|refine zR rfl (ci) rfl ?_|refine zR rfl (ce) rfl ?_)))
          exact zY rfl rfl .nil
        · skip
          obtain rfl : v = false := by rw [hv];simp [ha,hb,hl]
          repeat (first|(first|refine zB ?_|refine zE ?_|refine zG ?_|refine zK ?_|refine zL rfl ?_|refine zJ rfl ?_|refine zV ?_)|(first|((first|refine zA rfl ?_|refine zZ rfl rfl ?_);first|refine JOq (yT rfl rfl (by omega)) rfl ?_|refine JOq (yL rfl rfl (by omega)) rfl ?_|refine xI rfl (by simp) rfl ?_|refine zD rfl rfl ?_|refine zC rfl rfl ?_|refine yF rfl rfl ?_|refine zF rfl rfl ?_|refine zH rfl rfl ?_|refine yA rfl rfl rfl ?_|refine zR rfl (ci) rfl ?_|refine zR rfl (ce) rfl ?_)))
          exact zY rfl rfl .nil
  by_cases k3 : kind = 3
  · subst k3
    cases ha : (wK prio 1000).isSome with
    | false =>
      rw [ha] at ci
      obtain rfl : v = false := by rw [hv];simp [ha]
      repeat (first|(first|refine zB ?_|refine zE ?_|refine zG ?_|refine zK ?_|refine zP ?_|refine zL rfl ?_|refine zJ rfl ?_|refine zV ?_)|(first|((first|refine zA rfl ?_);first|refine JOq (yT rfl rfl (by omega)) rfl ?_|refine JOq (yL rfl rfl (by omega)) rfl ?_|refine zD rfl rfl ?_|refine zC rfl rfl ?_|refine zF rfl rfl ?_|refine zH rfl rfl ?_|refine yJ rfl rfl rfl ?_|refine zR rfl (ci) rfl ?_)|refine yU rfl rfl rfl ?_))
      exact zY rfl rfl .nil
    | true =>
      rw [ha] at ci
      cases ch with
      | true =>
        obtain rfl : v = false := by rw [hv];simp [ha]
        repeat (first|(first|refine zB ?_|refine zE ?_|refine zG ?_|refine zK ?_|refine zP ?_|refine zL rfl ?_|refine zJ rfl ?_|refine zV ?_)|(first|((first|refine zA rfl ?_|refine zZ rfl rfl ?_);first|refine JOq (yT rfl rfl (by omega)) rfl ?_|refine JOq (yL rfl rfl (by omega)) rfl ?_|refine zD rfl rfl ?_|refine zC rfl rfl ?_|refine zF rfl rfl ?_|refine zH rfl rfl ?_|refine yA rfl rfl rfl ?_|refine yJ rfl rfl rfl ?_|refine xD rfl rfl ?_|refine zR rfl (ci) rfl ?_)|refine yU rfl rfl rfl ?_))
        exact zY rfl rfl .nil
      | false =>
        by_cases hl : 1 ≤ N
        · by_cases hm : N ≤ 8
          · skip
            obtain rfl : v = true := by rw [hv];simp [ha,hl,hm]
            repeat (first|(first|refine zB ?_|refine zE ?_|refine zG ?_|refine zK ?_|refine zP ?_|refine zL rfl ?_|refine zJ rfl ?_|refine zV ?_)|(first|((first|refine zA rfl ?_|refine zZ rfl rfl ?_);first|refine JOq (JQ_leqT rfl rfl (by omega)) rfl ?_|refine JOq (JQ_geqT rfl rfl (by omega)) rfl ?_|refine JOq (yT rfl rfl (by omega)) rfl ?_|refine JOq (yL rfl rfl (by omega)) rfl ?_|refine zD rfl rfl ?_|refine zC rfl rfl ?_|refine yF rfl rfl ?_|refine zF rfl rfl ?_|refine zH rfl rfl ?_|refine yA rfl rfl rfl ?_|refine xD rfl rfl ?_|refine zR rfl (ci) rfl ?_)))
            exact zY rfl rfl .nil
          · skip
            obtain rfl : v = false := by rw [hv];simp [ha,hl,hm]
            repeat (first|(first|refine zB ?_|refine zE ?_|refine zG ?_|refine zK ?_|refine zP ?_|refine zL rfl ?_|refine zJ rfl ?_|refine zV ?_)|(first|((first|refine zA rfl ?_|refine zZ rfl rfl ?_);first|refine JOq (JQ_leqF rfl rfl (by omega)) rfl ?_|refine JOq (JQ_geqT rfl rfl (by omega)) rfl ?_|refine JOq (yT rfl rfl (by omega)) rfl ?_|refine JOq (yL rfl rfl (by omega)) rfl ?_|refine zD rfl rfl ?_|refine zC rfl rfl ?_|refine yF rfl rfl ?_|refine zF rfl rfl ?_|refine zH rfl rfl ?_|refine yA rfl rfl rfl ?_|refine xD rfl rfl ?_|refine zR rfl (ci) rfl ?_)))
            exact zY rfl rfl .nil
        · skip
          obtain rfl : v = false := by rw [hv];simp [ha,hl]
          repeat (first|(first|refine zB ?_|refine zE ?_|refine zG ?_|refine zK ?_|refine zP ?_|refine zL rfl ?_|refine zJ rfl ?_|refine zV ?_)|(first|((first|refine zA rfl ?_|refine zZ rfl rfl ?_);first|refine JOq (JQ_geqF rfl rfl (by omega)) rfl ?_|refine JOq (yT rfl rfl (by omega)) rfl ?_|refine JOq (yL rfl rfl (by omega)) rfl ?_|refine zD rfl rfl ?_|refine zC rfl rfl ?_|refine yF rfl rfl ?_|refine zF rfl rfl ?_|refine zH rfl rfl ?_|refine yA rfl rfl rfl ?_|refine yJ rfl rfl rfl ?_|refine xD rfl rfl ?_|refine zR rfl (ci) rfl ?_)|refine yU rfl rfl rfl ?_))
          exact zY rfl rfl .nil
  by_cases k4 : kind = 4
  · subst k4
    cases ha : (wK prio 1000).isSome with
    | false =>
      rw [ha] at ci
      obtain rfl : v = false := by rw [hv];simp [ha]
      repeat (first|(first|refine zB ?_|refine zE ?_|refine zG ?_|refine zK ?_|refine zL rfl ?_|refine zJ rfl ?_|refine zV ?_)|(first|((first|refine zA rfl ?_);first|refine JOq (yT rfl rfl (by omega)) rfl ?_|refine JOq (yL rfl rfl (by omega)) rfl ?_|refine zD rfl rfl ?_|refine zC rfl rfl ?_|refine zF rfl rfl ?_|refine zH rfl rfl ?_|refine yJ rfl rfl rfl ?_|refine zR rfl (ci) rfl ?_)|refine yU rfl rfl rfl ?_))
      exact zY rfl rfl .nil
    | true =>
      rw [ha] at ci
      cases ch with
      | true =>
        obtain rfl : v = false := by rw [hv];simp [ha]
        repeat (first|(first|refine zB ?_|refine zE ?_|refine zG ?_|refine zK ?_|refine zL rfl ?_|refine zJ rfl ?_|refine zV ?_)|(first|((first|refine zA rfl ?_|refine zZ rfl rfl ?_);first|refine JOq (yT rfl rfl (by omega)) rfl ?_|refine JOq (yL rfl rfl (by omega)) rfl ?_|refine zD rfl rfl ?_|refine zC rfl rfl ?_|refine zF rfl rfl ?_|refine zH rfl rfl ?_|refine yA rfl rfl rfl ?_|refine yJ rfl rfl rfl ?_|refine xD rfl rfl ?_|refine zR rfl (ci) rfl ?_)|refine yU rfl rfl rfl ?_))
        exact zY rfl rfl .nil
      | false =>
        by_cases hl : 1 ≤ N
        · by_cases hm : N ≤ 8
          · skip
            obtain rfl : v = true := by rw [hv];simp [ha,hl,hm]
            repeat (first|(first|refine zB ?_|refine zE ?_|refine zG ?_|refine zK ?_|refine zL rfl ?_|refine zJ rfl ?_|refine zV ?_)|(first|((first|refine zA rfl ?_|refine zZ rfl rfl ?_);first|refine JOq (JQ_leqT rfl rfl (by omega)) rfl ?_|refine JOq (JQ_geqT rfl rfl (by omega)) rfl ?_|refine JOq (yT rfl rfl (by omega)) rfl ?_|refine JOq (yL rfl rfl (by omega)) rfl ?_|refine zD rfl rfl ?_|refine zC rfl rfl ?_|refine yF rfl rfl ?_|refine zF rfl rfl ?_|refine zH rfl rfl ?_|refine yA rfl rfl rfl ?_|refine xD rfl rfl ?_|refine zR rfl (ci) rfl ?_)))
            exact zY rfl rfl .nil
          · skip
            obtain rfl : v = false := by rw [hv];simp [ha,hl,hm]
            repeat (first|(first|refine zB ?_|refine zE ?_|refine zG ?_|refine zK ?_|refine zL rfl ?_|refine zJ rfl ?_|refine zV ?_)|(first|((first|refine zA rfl ?_|refine zZ rfl rfl ?_);first|refine JOq (JQ_leqF rfl rfl (by omega)) rfl ?_|refine JOq (JQ_geqT rfl rfl (by omega)) rfl ?_|refine JOq (yT rfl rfl (by omega)) rfl ?_|refine JOq (yL rfl rfl (by omega)) rfl ?_|refine zD rfl rfl ?_|refine zC rfl rfl ?_|refine yF rfl rfl ?_|refine zF rfl rfl ?_|refine zH rfl rfl ?_|refine yA rfl rfl rfl ?_|refine xD rfl rfl ?_|refine zR rfl (ci) rfl ?_)))
            exact zY rfl rfl .nil
        · skip
          obtain rfl : v = false := by rw [hv];simp [ha,hl]
          repeat (first|(first|refine zB ?_|refine zE ?_|refine zG ?_|refine zK ?_|refine zL rfl ?_|refine zJ rfl ?_|refine zV ?_)|(first|((first|refine zA rfl ?_|refine zZ rfl rfl ?_);first|refine JOq (JQ_geqF rfl rfl (by omega)) rfl ?_|refine JOq (yT rfl rfl (by omega)) rfl ?_|refine JOq (yL rfl rfl (by omega)) rfl ?_|refine zD rfl rfl ?_|refine zC rfl rfl ?_|refine yF rfl rfl ?_|refine zF rfl rfl ?_|refine zH rfl rfl ?_|refine yA rfl rfl rfl ?_|refine yJ rfl rfl rfl ?_|refine xD rfl rfl ?_|refine zR rfl (ci) rfl ?_)|refine yU rfl rfl rfl ?_))
          exact zY rfl rfl .nil
  obtain rfl : v = false := by rw [hv];simp [k0,k5,k1,k2,k3,k4]
  repeat (first|(first|refine zB ?_|refine zE ?_|refine zG ?_|refine zK ?_|refine zP ?_|refine zJ rfl ?_|refine zV ?_)|(first|((first|refine zA rfl ?_);first|refine JOq (yL rfl rfl (by omega)) rfl ?_|refine zC rfl rfl ?_|refine zF rfl rfl ?_|refine zH rfl rfl ?_)))
  exact zY rfl rfl .nil
end Go.Proofs.YtickblndgihoeaaGreatDoor

/- Layer 11: the document's template,start,May. -/
namespace Go.Proofs.YtickblndgihoeaaGreatDoor
open Go Go.Sp
theorem prm_is (p : Prm) : (prmO p).isSome = if p.ch then (xV p.ty).isSome else (p.ty.1 == 0 && p.ty.2 == 0) := by
  obtain ⟨ch,e⟩ := p
  cases ch with
  | true => rw [prmO_t,uH];rfl
  | false => rw [prmO_f,uH,mustO_isSome];rfl
theorem ar_is (p : Ar) : (arO p).isSome = if p.ch then (decide (p.word = 0) && (wK p.en 31).isSome) else decide (p.en = 0) := by
  obtain ⟨ch,w,e⟩ := p
  cases ch with
  | true => rw [arO_t,uH,uH,mustO_isSome];rfl
  | false =>
    have hf : (flagO false).isSome = true := rfl
    rw [arO_f,uH,uH,mustO_isSome,hf];simp
theorem ins_is (y : YI) : (insO y).isSome = decide (chkA y.1 = 0) := by
  unfold insO
  by_cases h : chkA y.1 = 0
  · rw [if_pos h];simp [h]
  · rw [if_neg h];simp [h]
theorem tem_is (t : Tem) : (temO t).isSome = ((wH 0 8 prmO t.params).isSome && (wH 1 128 insO t.code).isSome) := uH _ _
theorem tem_no1 {t : Tem} {p : Prm} (hp : p ∈ t.params) (h : (prmO p).isSome = false) : (temO t).isSome = false := by
  rw [tem_is,listO_no hp (isSome_f h)];rfl
theorem tem_no2 {t : Tem} {y : YI} (hy : y ∈ t.code) (h : (insO y).isSome = false) : (temO t).isSome = false := by
  rw [tem_is,listO_no hy (isSome_f h),Bool.and_comm];rfl
theorem sta_is (s : Sta) : (staO s).isSome = ((wK s.tm 15).isSome && (wH 0 8 arO s.args).isSome) := uH _ _
theorem sta_no {s : Sta} {p : Ar} (hp : p ∈ s.args) (h : (arO p).isSome = false) : (staO s).isSome = false := by
  rw [sta_is,listO_no hp (isSome_f h),Bool.and_comm];rfl
theorem insR_row (y : YI) {L : List HP} : Ent (uT y :: L) (Vw 1 (.slice y.2.1 y.1.l.length y.2.2) y.1.l.length (ints y.1.l) :: L) := ent_turn fun _ h => h.2
attribute [local irreducible] callFunc Go.method J JL JO JR JR1 JRl Ct JG JM JM1 JW JW1 JQ JQ0 JS CtD xB ints by8 chkA tJ yB uK wZ temO wJ staO sec1O sec2O sec3O wK xV oneO wH prmO insO arO
set_option maxHeartbeats 4000000 in
theorem dtemplate_c (t : Tem) (hb1 : t.params.length ≤ 100000) (hb2 : t.code.length ≤ 100000) : Ct Tryz.prog 65 #[.agg (wA t).toArray] [wS t] (wF (.bool (temO t).isSome) []) := by
  have hno1 : ∀ p ∈ t.params,(prmO p).isSome = false → (temO t).isSome = false := fun _ => tem_no1
  have hno2 : ∀ p ∈ t.code,(insO p).isSome = false → (temO t).isSome = false := fun _ => tem_no2
  have hok : (∀ p ∈ t.params,(prmO p).isSome = true) → (∀ p ∈ t.code,(insO p).isSome = true) → (temO t).isSome = ((decide ((0 : Int) ≤ (t.params.length : Int)) && decide ((t.params.length : Int) ≤ 8)) && (decide ((1 : Int) ≤ (t.code.length : Int)) && decide ((t.code.length : Int) ≤ 128))) := fun h1 h2 => by rw [tem_is,listO_is h1,listO_is h2]
  obtain ⟨v,hv⟩ : ∃ v,v = (temO t).isSome := ⟨_,rfl⟩
  rw [← hv] at hno1 hno2 hok ⊢
  clear hv
  obtain ⟨params,⟨pp,kp⟩,code,⟨pc,kc⟩,wt,⟨pw,kw⟩⟩ := t
  dsimp only at hb1 hb2 hno1 hno2 hok
  refine Ct.heap (ent_split (A := wS _) (M := [Vw 3 (slc (pp,kp) params.length) params.length (params.flatMap tI),Vw 6 (slc (pc,kc) code.length) code.length (code.flatMap vC),yB uT code]) fun k hk => star_pers (temR_K _ k hk)) ?_
  rw [List.append_nil]
  refine yE (vs := [.agg [slc (pp,kp) params.length,slc (pc,kc) code.length,slc (pw,kw) wt.length].toArray]) Tryz.func65 rfl Tryz.ntmps65 (by simp) ?_
  repeat (first|(first|refine zB ?_|refine zE ?_|refine zG ?_)|(first|((first|refine zA rfl ?_);first|refine zC rfl rfl ?_|refine yN rfl rfl (fun r => ?_))))
  revert r
  intro n1
  refine uI (α := { _u : Unit // ∀ x ∈ params,(prmO x).isSome = true }) (fun _ => [(1,ptr n1)]) (fun _ => [pt n1 (.cells [slc (pp,kp) params.length,slc (pc,kc) code.length,slc (pw,kw) wt.length].toArray 50 (0,0)),Vw 3 (slc (pp,kp) params.length) params.length (params.flatMap tI),Vw 6 (slc (pc,kc) code.length) code.length (code.flatMap vC),yB uT code]) ?_ ?_
  · repeat (first|(first|refine zK ?_)|(first|((first|refine zA rfl ?_);first|refine zD rfl rfl ?_)))
    refine xU (β := { i : Nat // i ≤ params.length ∧ ∀ x ∈ params.take i,(prmO x).isSome = true }) (fun i => [(1,ptr n1),(3,.int .i64 (i.1 : Int))]) (fun _ => []) (fun _ => [pt n1 (.cells [slc (pp,kp) params.length,slc (pc,kc) code.length,slc (pw,kw) wt.length].toArray 50 (0,0)),Vw 3 (slc (pp,kp) params.length) params.length (params.flatMap tI),Vw 6 (slc (pc,kc) code.length) code.length (code.flatMap vC),yB uT code]) (fun i => params.length - i.1) ⟨0,by omega,by simp⟩ ?_ rfl Ent.sel ?_
    · (repeat (first|exact zM _|refine zI rfl ?_))
    rintro ⟨i,hi,hg⟩
    dsimp only
    by_cases hil : i < params.length
    · obtain ⟨x,hx⟩ : ∃ x,params[i]? = some x := ⟨_,List.getElem?_eq_getElem hil⟩
      have hxm := List.mem_of_getElem? hx
      refine wE (φ := ∃ b o,pp = some ⟨b,o,none⟩) (fun F w hs => (Ent.sel (K := [Vw 3 (slc (pp,kp) params.length) params.length (params.flatMap tI)]) F w hs).tail.out (fun k hk => xW (by omega) k hk)) (fun hp => ?_)
      obtain ⟨q1,o1,rfl⟩ := hp
      obtain ⟨ch,e1,e2⟩ := x
      have hpi := prm_is ⟨ch,(e1,e2)⟩
      dsimp only at hpi
      cases ch with
      | true =>
        have c := dtyp_c (e1,e2)
        rw [if_pos rfl] at hpi
        cases hb : (xV (e1,e2)).isSome with
        | false =>
          rw [hb] at c hpi
          obtain rfl := hno1 _ hxm hpi
          repeat (first|(first|refine zB ?_|refine zE ?_|refine zG ?_|refine zK ?_|refine zP ?_|refine zL rfl ?_|refine zV ?_)|(first|((first|refine zA rfl ?_|refine zZ rfl rfl ?_);first|refine JOq (yH rfl rfl (by omega)) rfl ?_|refine wI rfl rfl hil rfl ?_|refine JOq (xF [.bool true,.int .i64 e1,.int .i64 e2] rfl (fun u z hu => xG (b := q1) (o := o1) (n := params.length) (cap := kp) (j := i) hil (by rw [yY prmC_len _ _ _ _ (by have := (List.getElem?_eq_some_iff.1 hu).1;exact this) hx];exact hu)) rfl) rfl ?_|refine zO rfl rfl (by rfl) (by rfl) (by simp [Value.oneCell']) rfl ?_|refine xI rfl (by simp) rfl ?_|refine zD rfl rfl ?_|refine zC rfl rfl ?_|refine yF rfl rfl ?_|refine zF rfl rfl ?_|refine zH rfl rfl ?_|refine yA rfl rfl rfl ?_|refine xD rfl rfl ?_|refine zS rfl (fun r => ?_)|refine zR rfl (c) rfl ?_)|refine yU rfl rfl rfl ?_|refine JL_passN rfl rfl rfl ?_))
          exact zY rfl rfl .nil
        | true =>
          rw [hb] at c hpi
          replace hb := hpi
          repeat (first|(first|refine zB ?_|refine zE ?_|refine zG ?_|refine zK ?_|refine zP ?_|refine zL rfl ?_|refine zJ rfl ?_)|(first|((first|refine zA rfl ?_|refine zZ rfl rfl ?_);first|refine JOq (yH rfl rfl (by omega)) rfl ?_|refine wI rfl rfl hil rfl ?_|refine JOq (xF [.bool true,.int .i64 e1,.int .i64 e2] rfl (fun u z hu => xG (b := q1) (o := o1) (n := params.length) (cap := kp) (j := i) hil (by rw [yY prmC_len _ _ _ _ (by have := (List.getElem?_eq_some_iff.1 hu).1;exact this) hx];exact hu)) rfl) rfl ?_|refine zO rfl rfl (by rfl) (by rfl) (by simp [Value.oneCell']) rfl ?_|refine xI rfl (by simp) rfl ?_|refine yZ (b := 1) rfl rfl (by omega) rfl ?_|refine zD rfl rfl ?_|refine zC rfl rfl ?_|refine yF rfl rfl ?_|refine zF rfl rfl ?_|refine zH rfl rfl ?_|refine yA rfl rfl rfl ?_|refine yJ rfl rfl rfl ?_|refine xD rfl rfl ?_|refine zS rfl (fun r => ?_)|refine zR rfl (c) rfl ?_)|refine yU rfl rfl rfl ?_))
          exact ⟨⟨i + 1,by omega,take_good hx hg hb⟩,by simp only;omega,by (repeat (first|exact zM _|refine zI rfl ?_)),rfl,Ent.sel⟩
      | false =>
        rw [if_neg (by simp)] at hpi
        by_cases he : e1 = 0 ∧ e2 = 0
        · obtain ⟨rfl,rfl⟩ := he
          have hb : (prmO ⟨false,(0,0)⟩).isSome = true := hpi
          repeat (first|(first|refine zB ?_|refine zE ?_|refine zG ?_|refine zK ?_|refine zP ?_|refine zL rfl ?_|refine zJ rfl ?_)|(first|((first|refine zA rfl ?_|refine zZ rfl rfl ?_);first|refine JOq (JQ_neAgg (r := true) rfl rfl (eq_iiS 0 0 9998)) rfl ?_|refine JOq (yH rfl rfl (by omega)) rfl ?_|refine wI rfl rfl hil rfl ?_|refine JOq (xF [.bool false,.int .i64 0,.int .i64 0] rfl (fun u z hu => xG (b := q1) (o := o1) (n := params.length) (cap := kp) (j := i) hil (by rw [yY prmC_len _ _ _ _ (by have := (List.getElem?_eq_some_iff.1 hu).1;exact this) hx];exact hu)) rfl) rfl ?_|refine zO rfl rfl (by rfl) (by rfl) (by simp [Value.oneCell']) rfl ?_|refine xI rfl (by simp) rfl ?_|refine yG (cs := yI (0,0)) rfl rfl rfl ?_|refine yZ (b := 1) rfl rfl (by omega) rfl ?_|refine zD rfl rfl ?_|refine zC rfl rfl ?_|refine yF rfl rfl ?_|refine zF rfl rfl ?_|refine zH rfl rfl ?_|refine yA rfl rfl rfl ?_|refine yJ rfl rfl rfl ?_|refine xD rfl rfl ?_|refine zS rfl (fun r => ?_))|refine yU rfl rfl rfl ?_))
          exact ⟨⟨i + 1,by omega,take_good hx hg hb⟩,by simp only;omega,by (repeat (first|exact zM _|refine zI rfl ?_)),rfl,Ent.sel⟩
        · obtain rfl := hno1 _ hxm (hpi.trans (by simp only [Bool.and_eq_false_iff,beq_eq_false_iff_ne];by_cases h1 : e1 = 0;exact .inr fun h2 => he ⟨h1,h2⟩;exact .inl h1))
          repeat (first|(first|refine zB ?_|refine zE ?_|refine zG ?_|refine zK ?_|refine zP ?_|refine zL rfl ?_|refine zV ?_)|(first|((first|refine zA rfl ?_|refine zZ rfl rfl ?_);first|refine JOq (JQ_neAgg (r := false) rfl rfl (eq_iiF he 9998)) rfl ?_|refine JOq (yH rfl rfl (by omega)) rfl ?_|refine wI rfl rfl hil rfl ?_|refine JOq (xF [.bool false,.int .i64 e1,.int .i64 e2] rfl (fun u z hu => xG (b := q1) (o := o1) (n := params.length) (cap := kp) (j := i) hil (by rw [yY prmC_len _ _ _ _ (by have := (List.getElem?_eq_some_iff.1 hu).1;exact this) hx];exact hu)) rfl) rfl ?_|refine zO rfl rfl (by rfl) (by rfl) (by simp [Value.oneCell']) rfl ?_|refine xI rfl (by simp) rfl ?_|refine yG (cs := yI (0,0)) rfl rfl rfl ?_|refine zD rfl rfl ?_|refine zC rfl rfl ?_|refine yF rfl rfl ?_|refine zF rfl rfl ?_|refine zH rfl rfl ?_|refine yA rfl rfl rfl ?_|refine yJ rfl rfl rfl ?_|refine xD rfl rfl ?_|refine zS rfl (fun r => ?_))|refine yU rfl rfl rfl ?_))
          exact zY rfl rfl .nil
    · obtain rfl : i = params.length := by omega
      rw [List.take_length] at hg
      repeat (first|(first|refine zB ?_|refine zE ?_|refine zG ?_|refine zJ rfl ?_|refine xA ?_)|(first|((first|refine zA rfl ?_);first|refine JOq (yS rfl rfl (by omega)) rfl ?_|refine zD rfl rfl ?_|refine yF rfl rfl ?_|refine zF rfl rfl ?_|refine zH rfl rfl ?_)))
      exact ⟨⟨(),hg⟩,by (repeat (first|exact zM _|refine zI rfl ?_)),rfl,Ent.sel⟩
  rintro ⟨⟨⟩,hg1⟩
  dsimp only [thn]
  repeat (first|(first|refine zB ?_|refine zE ?_|refine zG ?_)|(first|((first|refine zA rfl ?_);first|refine zC rfl rfl ?_)))
  refine uI (α := { _u : Unit // ∀ x ∈ code,(insO x).isSome = true }) (fun _ => [(1,ptr n1)]) (fun _ => [pt n1 (.cells [slc (pp,kp) params.length,slc (pc,kc) code.length,slc (pw,kw) wt.length].toArray 50 (0,0)),Vw 3 (slc (pp,kp) params.length) params.length (params.flatMap tI),Vw 6 (slc (pc,kc) code.length) code.length (code.flatMap vC),yB uT code]) ?_ ?_
  · repeat (first|(first|refine zK ?_)|(first|((first|refine zA rfl ?_);first|refine zD rfl rfl ?_)))
    refine xU (β := { i : Nat // i ≤ code.length ∧ ∀ x ∈ code.take i,(insO x).isSome = true }) (fun i => [(1,ptr n1),(5,.int .i64 (i.1 : Int))]) (fun _ => []) (fun _ => [pt n1 (.cells [slc (pp,kp) params.length,slc (pc,kc) code.length,slc (pw,kw) wt.length].toArray 50 (0,0)),Vw 3 (slc (pp,kp) params.length) params.length (params.flatMap tI),Vw 6 (slc (pc,kc) code.length) code.length (code.flatMap vC),yB uT code]) (fun i => code.length - i.1) ⟨0,by omega,by simp⟩ ?_ rfl Ent.sel ?_
    · (repeat (first|exact zM _|refine zI rfl ?_))
    rintro ⟨i,hi,hg⟩
    dsimp only
    by_cases hil : i < code.length
    · obtain ⟨x,hx⟩ : ∃ x,code[i]? = some x := ⟨_,List.getElem?_eq_getElem hil⟩
      have hxm := List.mem_of_getElem? hx
      refine wE (φ := ∃ b o,pc = some ⟨b,o,none⟩) (fun F w hs => (Ent.sel (K := [Vw 6 (slc (pc,kc) code.length) code.length (code.flatMap vC)]) F w hs).tail.out (fun k hk => xW (by omega) k hk)) (fun hp => ?_)
      obtain ⟨q2,o2,rfl⟩ := hp
      obtain ⟨x,⟨py,ky⟩⟩ := x
      have hpi := ins_is (x,py,ky)
      dsimp only at hpi
      refine J_all uT code (x,py,ky) pers_insR hxm ?_
      refine wQ (uT (x,py,ky)) ?_
      refine wE (φ := x.l.length ≤ ky ∧ x.l.length ≤ 1000 ∧ -9223372036854775808 ≤ x.a ∧ x.a ≤ 9223372036854775807) (fun F w hs => hs.tail.out (fun k hk => hk.1)) (fun hr => ?_)
      refine xQ (insR_row (x,py,ky)) ?_
      have c := dcheck_c x py ky hr.1 (by omega)
      by_cases h0 : chkA x = 0
      · rw [h0] at c
        have hb : (insO (x,py,ky)).isSome = true := hpi.trans (by rw [h0];rfl)
        repeat (first|(first|refine zB ?_|refine zE ?_|refine zG ?_|refine zK ?_|refine zP ?_|refine zL rfl ?_|refine zJ rfl ?_)|(first|((first|refine zA rfl ?_);first|refine JOq (yH rfl rfl (by omega)) rfl ?_|refine JOq (vW rfl rfl (by omega)) rfl ?_|refine wI rfl rfl hil rfl ?_|refine JOq (xF (vC (x,py,ky)) rfl (fun u z hu => xG (b := q2) (o := o2) (n := code.length) (cap := kc) (j := i) hil (by rw [yY insC_len _ _ _ _ (by have := (List.getElem?_eq_some_iff.1 hu).1;exact this) hx];exact hu)) rfl) rfl ?_|refine yZ (b := 1) rfl rfl (by omega) rfl ?_|refine zD rfl rfl ?_|refine zC rfl rfl ?_|refine yF rfl rfl ?_|refine zF rfl rfl ?_|refine zH rfl rfl ?_|refine zR rfl (c) rfl ?_)))
        exact ⟨⟨i + 1,by omega,take_good hx hg hb⟩,by simp only;omega,by (repeat (first|exact zM _|refine zI rfl ?_)),rfl,Ent.sel⟩
      · obtain rfl := hno2 _ hxm (hpi.trans (by simp [h0]))
        repeat (first|(first|refine zB ?_|refine zE ?_|refine zG ?_|refine zK ?_|refine zP ?_|refine zL rfl ?_|refine zV ?_)|(first|((first|refine zA rfl ?_);first|refine JOq (yH rfl rfl (by omega)) rfl ?_|refine JOq (vS rfl rfl (by omega)) rfl ?_|refine wI rfl rfl hil rfl ?_|refine JOq (xF (vC (x,py,ky)) rfl (fun u z hu => xG (b := q2) (o := o2) (n := code.length) (cap := kc) (j := i) hil (by rw [yY insC_len _ _ _ _ (by have := (List.getElem?_eq_some_iff.1 hu).1;exact this) hx];exact hu)) rfl) rfl ?_|refine zD rfl rfl ?_|refine zC rfl rfl ?_|refine yF rfl rfl ?_|refine zF rfl rfl ?_|refine zH rfl rfl ?_|refine zR rfl (c) rfl ?_)))
        exact zY rfl rfl .nil
    · obtain rfl : i = code.length := by omega
      rw [List.take_length] at hg
      repeat (first|(first|refine zB ?_|refine zE ?_|refine zG ?_|refine zJ rfl ?_|refine xA ?_)|(first|((first|refine zA rfl ?_);first|refine JOq (yS rfl rfl (by omega)) rfl ?_|refine zD rfl rfl ?_|refine yF rfl rfl ?_|refine zF rfl rfl ?_|refine zH rfl rfl ?_)))
      exact ⟨⟨(),hg⟩,by (repeat (first|exact zM _|refine zI rfl ?_)),rfl,Ent.sel⟩
  rintro ⟨⟨⟩,hg2⟩
  dsimp only [thn]
  obtain rfl := hok hg1 hg2
  obtain ⟨N,hN⟩ : ∃ N : Int,N = params.length := ⟨_,rfl⟩
  obtain ⟨K,hK⟩ : ∃ N : Int,N = code.length := ⟨_,rfl⟩
  have hN0 : 0 ≤ N := by omega
  by_cases g1 : (params.length : Int) ≤ 8
  · by_cases g2 : (1 : Int) ≤ (code.length : Int)
    · by_cases g3 : (code.length : Int) ≤ 128
      · skip
        rw [show ((decide ((0 : Int) ≤ (params.length : Int)) && decide ((params.length : Int) ≤ 8)) && (decide ((1 : Int) ≤ (code.length : Int)) && decide ((code.length : Int) ≤ 128))) = true by simp only [decide_eq_true g1,decide_eq_true g2,decide_eq_true g3];simp]
        repeat (first|(first|refine zB ?_|refine zE ?_|refine zG ?_|refine zV ?_)|(first|((first|refine zA rfl ?_|refine zZ rfl rfl ?_);first|refine JOq (JQ_leqT rfl rfl (by omega)) rfl ?_|refine JOq (JQ_geqT rfl rfl (by omega)) rfl ?_|refine zD rfl rfl ?_|refine zC rfl rfl ?_|refine yF rfl rfl ?_|refine zF rfl rfl ?_|refine zH rfl rfl ?_|refine yA rfl rfl rfl ?_)))
        exact zY rfl rfl .nil
      · skip
        rw [show ((decide ((0 : Int) ≤ (params.length : Int)) && decide ((params.length : Int) ≤ 8)) && (decide ((1 : Int) ≤ (code.length : Int)) && decide ((code.length : Int) ≤ 128))) = false by simp only [decide_eq_true g1,decide_eq_true g2,decide_eq_false g3];simp]
        repeat (first|(first|refine zB ?_|refine zE ?_|refine zG ?_|refine zV ?_)|(first|((first|refine zA rfl ?_|refine zZ rfl rfl ?_);first|refine JOq (JQ_leqT rfl rfl (by omega)) rfl ?_|refine JOq (JQ_leqF rfl rfl (by omega)) rfl ?_|refine JOq (JQ_geqT rfl rfl (by omega)) rfl ?_|refine zD rfl rfl ?_|refine zC rfl rfl ?_|refine yF rfl rfl ?_|refine zF rfl rfl ?_|refine zH rfl rfl ?_|refine yA rfl rfl rfl ?_)))
        exact zY rfl rfl .nil
    · skip
      rw [show ((decide ((0 : Int) ≤ (params.length : Int)) && decide ((params.length : Int) ≤ 8)) && (decide ((1 : Int) ≤ (code.length : Int)) && decide ((code.length : Int) ≤ 128))) = false by simp only [decide_eq_true g1,decide_eq_false g2];simp]
      repeat (first|(first|refine zB ?_|refine zE ?_|refine zG ?_|refine zV ?_)|(first|((first|refine zA rfl ?_|refine zZ rfl rfl ?_);first|refine JOq (JQ_leqT rfl rfl (by omega)) rfl ?_|refine JOq (JQ_geqF rfl rfl (by omega)) rfl ?_|refine zD rfl rfl ?_|refine zC rfl rfl ?_|refine yF rfl rfl ?_|refine zF rfl rfl ?_|refine zH rfl rfl ?_|refine yA rfl rfl rfl ?_|refine yJ rfl rfl rfl ?_)|refine yU rfl rfl rfl ?_))
      exact zY rfl rfl .nil
  · skip
    rw [show ((decide ((0 : Int) ≤ (params.length : Int)) && decide ((params.length : Int) ≤ 8)) && (decide ((1 : Int) ≤ (code.length : Int)) && decide ((code.length : Int) ≤ 128))) = false by simp only [decide_eq_false g1];simp]
    repeat (first|(first|refine zB ?_|refine zE ?_|refine zG ?_|refine zV ?_)|(first|((first|refine zA rfl ?_);first|refine JOq (JQ_leqF rfl rfl (by omega)) rfl ?_|refine zD rfl rfl ?_|refine zC rfl rfl ?_|refine yF rfl rfl ?_|refine zF rfl rfl ?_|refine zH rfl rfl ?_|refine yJ rfl rfl rfl ?_)|refine yU rfl rfl rfl ?_))
    exact zY rfl rfl .nil
set_option maxHeartbeats 4000000 in
theorem dstart_c (s : Sta) (hb1 : s.args.length ≤ 100000) : Ct Tryz.prog 67 #[.agg (vE s).toArray] [StaR s] (wF (.bool (staO s).isSome) []) := by
  have hno1 : ∀ p ∈ s.args,(arO p).isSome = false → (staO s).isSome = false := fun _ => sta_no
  have hok : (∀ p ∈ s.args,(arO p).isSome = true) → (staO s).isSome = ((wK s.tm 15).isSome && (decide ((0 : Int) ≤ (s.args.length : Int)) && decide ((s.args.length : Int) ≤ 8))) := fun h1 => by rw [sta_is,listO_is h1]
  obtain ⟨v,hv⟩ : ∃ v,v = (staO s).isSome := ⟨_,rfl⟩
  rw [← hv] at hno1 hok ⊢
  clear hv
  obtain ⟨tm,args,⟨pa,ka⟩⟩ := s
  dsimp only at hb1 hno1 hok
  refine yE (vs := [.agg [.int .i64 tm,slc (pa,ka) args.length].toArray]) Tryz.func67 rfl Tryz.ntmps67 (by simp) ?_
  repeat (first|(first|refine zB ?_|refine zE ?_|refine zG ?_)|(first|((first|refine zA rfl ?_);first|refine zC rfl rfl ?_|refine yN rfl rfl (fun r => ?_))))
  revert r
  intro n1
  refine uI (α := { _u : Unit // ∀ x ∈ args,(arO x).isSome = true }) (fun _ => [(1,ptr n1)]) (fun _ => [pt n1 (.cells [.int .i64 tm,slc (pa,ka) args.length].toArray 67 (0,0)),Vw 3 (slc (pa,ka) args.length) args.length (args.flatMap arC)]) ?_ ?_
  · repeat (first|(first|refine zK ?_)|(first|((first|refine zA rfl ?_);first|refine zD rfl rfl ?_)))
    refine xU (β := { i : Nat // i ≤ args.length ∧ ∀ x ∈ args.take i,(arO x).isSome = true }) (fun i => [(1,ptr n1),(3,.int .i64 (i.1 : Int))]) (fun _ => []) (fun _ => [pt n1 (.cells [.int .i64 tm,slc (pa,ka) args.length].toArray 67 (0,0)),Vw 3 (slc (pa,ka) args.length) args.length (args.flatMap arC)]) (fun i => args.length - i.1) ⟨0,by omega,by simp⟩ ?_ rfl Ent.sel ?_
    · (repeat (first|exact zM _|refine zI rfl ?_))
    rintro ⟨i,hi,hg⟩
    dsimp only
    by_cases hil : i < args.length
    · obtain ⟨x,hx⟩ : ∃ x,args[i]? = some x := ⟨_,List.getElem?_eq_getElem hil⟩
      have hxm := List.mem_of_getElem? hx
      refine wE (φ := ∃ b o,pa = some ⟨b,o,none⟩) (fun F w hs => (Ent.sel (K := [Vw 3 (slc (pa,ka) args.length) args.length (args.flatMap arC)]) F w hs).tail.out (fun k hk => xW (by omega) k hk)) (fun hp => ?_)
      obtain ⟨q1,o1,rfl⟩ := hp
      obtain ⟨ch,wd,en⟩ := x
      have hpi := ar_is ⟨ch,wd,en⟩
      dsimp only at hpi
      cases ch with
      | true =>
        have c := din_c en 31
        rw [if_pos rfl] at hpi
        by_cases hw : wd = 0
        · cases hb : (wK en 31).isSome with
          | false =>
            rw [hb] at c hpi
            obtain rfl := hno1 _ hxm (hpi.trans (by simp))
            repeat (first|(first|refine zB ?_|refine zE ?_|refine zG ?_|refine zK ?_|refine zP ?_|refine zL rfl ?_|refine zV ?_)|(first|((first|refine zA rfl ?_|refine zZ rfl rfl ?_);first|refine JOq (yH rfl rfl (by omega)) rfl ?_|refine JOq (vW rfl rfl (by omega)) rfl ?_|refine wI rfl rfl hil rfl ?_|refine JOq (xF [.bool true,.int .i64 wd,.int .i64 en] rfl (fun u z hu => xG (b := q1) (o := o1) (n := args.length) (cap := ka) (j := i) hil (by rw [yY arC_len _ _ _ _ (by have := (List.getElem?_eq_some_iff.1 hu).1;exact this) hx];exact hu)) rfl) rfl ?_|refine zO rfl rfl (by rfl) (by rfl) (by simp [Value.oneCell']) rfl ?_|refine zD rfl rfl ?_|refine zC rfl rfl ?_|refine yF rfl rfl ?_|refine zF rfl rfl ?_|refine zH rfl rfl ?_|refine yA rfl rfl rfl ?_|refine yJ rfl rfl rfl ?_|refine xD rfl rfl ?_|refine zS rfl (fun r => ?_)|refine zR rfl (c) rfl ?_)|refine yU rfl rfl rfl ?_|refine JL_passN rfl rfl rfl ?_))
            exact zY rfl rfl .nil
          | true =>
            rw [hb] at c hpi
            replace hb := hpi.trans (by simp [hw] : _ = true)
            repeat (first|(first|refine zB ?_|refine zE ?_|refine zG ?_|refine zK ?_|refine zP ?_|refine zL rfl ?_|refine zJ rfl ?_)|(first|((first|refine zA rfl ?_|refine zZ rfl rfl ?_);first|refine JOq (yH rfl rfl (by omega)) rfl ?_|refine JOq (vW rfl rfl (by omega)) rfl ?_|refine wI rfl rfl hil rfl ?_|refine JOq (xF [.bool true,.int .i64 wd,.int .i64 en] rfl (fun u z hu => xG (b := q1) (o := o1) (n := args.length) (cap := ka) (j := i) hil (by rw [yY arC_len _ _ _ _ (by have := (List.getElem?_eq_some_iff.1 hu).1;exact this) hx];exact hu)) rfl) rfl ?_|refine zO rfl rfl (by rfl) (by rfl) (by simp [Value.oneCell']) rfl ?_|refine yZ (b := 1) rfl rfl (by omega) rfl ?_|refine zD rfl rfl ?_|refine zC rfl rfl ?_|refine yF rfl rfl ?_|refine zF rfl rfl ?_|refine zH rfl rfl ?_|refine yA rfl rfl rfl ?_|refine yJ rfl rfl rfl ?_|refine xD rfl rfl ?_|refine zS rfl (fun r => ?_)|refine zR rfl (c) rfl ?_)|refine yU rfl rfl rfl ?_))
            exact ⟨⟨i + 1,by omega,take_good hx hg hb⟩,by simp only;omega,by (repeat (first|exact zM _|refine zI rfl ?_)),rfl,Ent.sel⟩
        · obtain rfl := hno1 _ hxm (hpi.trans (by simp [hw]))
          repeat (first|(first|refine zB ?_|refine zE ?_|refine zG ?_|refine zK ?_|refine zP ?_|refine zL rfl ?_|refine zV ?_)|(first|((first|refine zA rfl ?_|refine zZ rfl rfl ?_);first|refine JOq (yH rfl rfl (by omega)) rfl ?_|refine JOq (vS rfl rfl (by omega)) rfl ?_|refine wI rfl rfl hil rfl ?_|refine JOq (xF [.bool true,.int .i64 wd,.int .i64 en] rfl (fun u z hu => xG (b := q1) (o := o1) (n := args.length) (cap := ka) (j := i) hil (by rw [yY arC_len _ _ _ _ (by have := (List.getElem?_eq_some_iff.1 hu).1;exact this) hx];exact hu)) rfl) rfl ?_|refine zO rfl rfl (by rfl) (by rfl) (by simp [Value.oneCell']) rfl ?_|refine zD rfl rfl ?_|refine zC rfl rfl ?_|refine yF rfl rfl ?_|refine zF rfl rfl ?_|refine zH rfl rfl ?_|refine yA rfl rfl rfl ?_|refine zS rfl (fun r => ?_))|refine yU rfl rfl rfl ?_|refine JL_passN rfl rfl rfl ?_))
          exact zY rfl rfl .nil
      | false =>
        rw [if_neg (by simp)] at hpi
        by_cases he : en = 0
        · have hb := hpi.trans (by simp [he] : _ = true)
          repeat (first|(first|refine zB ?_|refine zE ?_|refine zG ?_|refine zK ?_|refine zP ?_|refine zL rfl ?_|refine zJ rfl ?_)|(first|((first|refine zA rfl ?_|refine zZ rfl rfl ?_);first|refine JOq (yH rfl rfl (by omega)) rfl ?_|refine JOq (vW rfl rfl (by omega)) rfl ?_|refine wI rfl rfl hil rfl ?_|refine JOq (xF [.bool false,.int .i64 wd,.int .i64 en] rfl (fun u z hu => xG (b := q1) (o := o1) (n := args.length) (cap := ka) (j := i) hil (by rw [yY arC_len _ _ _ _ (by have := (List.getElem?_eq_some_iff.1 hu).1;exact this) hx];exact hu)) rfl) rfl ?_|refine zO rfl rfl (by rfl) (by rfl) (by simp [Value.oneCell']) rfl ?_|refine yZ (b := 1) rfl rfl (by omega) rfl ?_|refine zD rfl rfl ?_|refine zC rfl rfl ?_|refine yF rfl rfl ?_|refine zF rfl rfl ?_|refine zH rfl rfl ?_|refine yA rfl rfl rfl ?_|refine yJ rfl rfl rfl ?_|refine xD rfl rfl ?_|refine zS rfl (fun r => ?_))|refine yU rfl rfl rfl ?_|refine JL_passN rfl rfl rfl ?_))
          exact ⟨⟨i + 1,by omega,take_good hx hg hb⟩,by simp only;omega,by (repeat (first|exact zM _|refine zI rfl ?_)),rfl,Ent.sel⟩
        · obtain rfl := hno1 _ hxm (hpi.trans (by simp [he]))
          repeat (first|(first|refine zB ?_|refine zE ?_|refine zG ?_|refine zK ?_|refine zP ?_|refine zL rfl ?_|refine zV ?_)|(first|((first|refine zA rfl ?_|refine zZ rfl rfl ?_);first|refine JOq (yH rfl rfl (by omega)) rfl ?_|refine JOq (vS rfl rfl (by omega)) rfl ?_|refine wI rfl rfl hil rfl ?_|refine JOq (xF [.bool false,.int .i64 wd,.int .i64 en] rfl (fun u z hu => xG (b := q1) (o := o1) (n := args.length) (cap := ka) (j := i) hil (by rw [yY arC_len _ _ _ _ (by have := (List.getElem?_eq_some_iff.1 hu).1;exact this) hx];exact hu)) rfl) rfl ?_|refine zO rfl rfl (by rfl) (by rfl) (by simp [Value.oneCell']) rfl ?_|refine zD rfl rfl ?_|refine zC rfl rfl ?_|refine yF rfl rfl ?_|refine zF rfl rfl ?_|refine zH rfl rfl ?_|refine yA rfl rfl rfl ?_|refine yJ rfl rfl rfl ?_|refine xD rfl rfl ?_|refine zS rfl (fun r => ?_))|refine yU rfl rfl rfl ?_|refine JL_passN rfl rfl rfl ?_))
          exact zY rfl rfl .nil
    · obtain rfl : i = args.length := by omega
      rw [List.take_length] at hg
      repeat (first|(first|refine zB ?_|refine zE ?_|refine zG ?_|refine zJ rfl ?_|refine xA ?_)|(first|((first|refine zA rfl ?_);first|refine JOq (yS rfl rfl (by omega)) rfl ?_|refine zD rfl rfl ?_|refine yF rfl rfl ?_|refine zF rfl rfl ?_|refine zH rfl rfl ?_)))
      exact ⟨⟨(),hg⟩,by (repeat (first|exact zM _|refine zI rfl ?_)),rfl,Ent.sel⟩
  rintro ⟨⟨⟩,hg1⟩
  dsimp only [thn]
  obtain rfl := hok hg1
  have ci := din_c tm 15
  have hlow : (0 : Int) ≤ (args.length : Int) := by omega
  cases hb : (wK tm 15).isSome with
  | false =>
    rw [hb] at ci
    rw [Bool.false_and]
    repeat (first|(first|refine zB ?_|refine zE ?_|refine zG ?_|refine zV ?_)|(first|((first|refine zA rfl ?_);first|refine zD rfl rfl ?_|refine zC rfl rfl ?_|refine zF rfl rfl ?_|refine zH rfl rfl ?_|refine yJ rfl rfl rfl ?_|refine zR rfl (ci) rfl ?_)|refine yU rfl rfl rfl ?_))
    exact zY rfl rfl .nil
  | true =>
    rw [hb] at ci
    by_cases g1 : (args.length : Int) ≤ 8
    · rw [decide_eq_true g1,decide_eq_true hlow]
      repeat (first|(first|refine zB ?_|refine zE ?_|refine zG ?_|refine zV ?_)|(first|((first|refine zA rfl ?_|refine zZ rfl rfl ?_);first|refine JOq (JQ_leqT rfl rfl (by omega)) rfl ?_|refine zD rfl rfl ?_|refine zC rfl rfl ?_|refine yF rfl rfl ?_|refine zF rfl rfl ?_|refine zH rfl rfl ?_|refine yA rfl rfl rfl ?_|refine zR rfl (ci) rfl ?_)))
      exact zY rfl rfl .nil
    · rw [decide_eq_false g1,decide_eq_true hlow]
      repeat (first|(first|refine zB ?_|refine zE ?_|refine zG ?_|refine zV ?_)|(first|((first|refine zA rfl ?_|refine zZ rfl rfl ?_);first|refine JOq (JQ_leqF rfl rfl (by omega)) rfl ?_|refine zD rfl rfl ?_|refine zC rfl rfl ?_|refine yF rfl rfl ?_|refine zF rfl rfl ?_|refine zH rfl rfl ?_|refine yA rfl rfl rfl ?_|refine zR rfl (ci) rfl ?_)))
      exact zY rfl rfl .nil
end Go.Proofs.YtickblndgihoeaaGreatDoor

/- Layer 11: the document's May,layNode. -/
namespace Go.Proofs.YtickblndgihoeaaGreatDoor
open Go Go.Sp
section
variable {P : Program} {N : Nat} {E : Env} {D : List Deferred} {L : List HP}
variable {d : Option Nat} {ty : TypeId} {pos : String} {after : Array Edge} {g : Option (Nat × Bool)}
theorem tD {x y : Operand} {t u : TypeId} {a b r : List UInt8} (h : a ++ b = r) (hx : ev E x = some (str a)) (hy : ev E y = some (str b)) (hb : a.length + b.length ≤ 9223372036854775807) : JQ P N ⟨d,.binOp .add t x y u,ty,pos,after,g⟩ E D L (str r) := h ▸ uQ hx hy hb
end
theorem pay_get {k p c e1 e2 s : Value} {i : Nat} {u : Value} (hu : ([e1,e2] : List Value)[i]? = some u) : ([k,p,c,e1,e2,s] : List Value)[3 + i]? = some u := by
  rcases i with _ | _ | i
  · exact hu
  · exact hu
  · simp at hu
theorem staR_of {s : Sta} {L : List HP} : Ent (StaQ s :: L) (StaR s :: L) := ent_turn fun _ h => h.2
theorem list_no {α : Type} {least most : Int} {o : α → OB} {l : List α} {x : α} (hx : x ∈ l) (h : (o x).isSome = false) : (wH least most o l).isSome = false := by rw [listO_no hx (isSome_f h)];rfl
theorem list_fits {α : Type} {most : Int} {o : α → OB} {l : List α} (h : ∀ x ∈ l,(o x).isSome = true) : (wH 0 most o l).isSome = decide ((l.length : Int) ≤ most) := by
  rw [listO_is h,decide_eq_true (show (0 : Int) ≤ (l.length : Int) by omega),Bool.true_and]
noncomputable def mayB (m : Mdl) : Bool := (sec1O m).isSome && ((sec2O m).isSome && (sec3O m).isSome)
theorem may_1 {m : Mdl} {x : Nod} (hx : x ∈ m.nodes) (h : (wJ x).isSome = false) : mayB m = false := by
  unfold mayB;rw [show (sec1O m).isSome = false from list_no hx h];rfl
theorem may_2 {m : Mdl} {x : Tem} (hx : x ∈ m.temps) (h : (temO x).isSome = false) : mayB m = false := by
  unfold mayB;rw [show (sec2O m).isSome = false from list_no hx h];simp
theorem may_3 {m : Mdl} {x : Int × Int} (hx : x ∈ m.chans) (h : (xV x).isSome = false) : mayB m = false := by
  unfold mayB
  rw [show (sec3O m).isSome = false from (uH _ _).trans (by rw [list_no hx h];rfl)];simp
theorem may_4 {m : Mdl} {x : Sta} (hx : x ∈ m.starts) (h : (staO x).isSome = false) : mayB m = false := by
  unfold mayB
  rw [show (sec3O m).isSome = false from (uH _ _).trans (by rw [list_no (l := m.starts) hx h];simp)];simp
theorem may_ok {m : Mdl} (h1 : ∀ x ∈ m.nodes,(wJ x).isSome = true) (h2 : ∀ x ∈ m.temps,(temO x).isSome = true) (h3 : ∀ x ∈ m.chans,(xV x).isSome = true) (h4 : ∀ x ∈ m.starts,(staO x).isSome = true) :
    mayB m = (decide ((m.nodes.length : Int) ≤ 64) && (decide ((m.temps.length : Int) ≤ 16) && (decide ((m.chans.length : Int) ≤ 16) && decide ((m.starts.length : Int) ≤ 8)))) := by
  unfold mayB
  rw [show (sec1O m).isSome = _ from list_fits h1,show (sec2O m).isSome = _ from list_fits h2,show (sec3O m).isSome = _ from uH _ _,list_fits h3,list_fits h4]
theorem lay_nodeK {n : Nod} {b : List UInt8} (h : wJ n = some b) :
    (n.kind = 0 ∧ n.next = [] ∧ b = vJ 0) ∨ (n.kind = 5 ∧ ∃ tl,uY xV n.next = some tl ∧ b = vJ 5 ++ tl) ∨
    ((n.kind = 1 ∨ n.kind = 2) ∧ (0 ≤ n.prio ∧ n.prio ≤ 1000) ∧ ∃ tl,uY xV n.next = some tl ∧ ((n.ch = true ∧ ∃ pb,xV n.pay = some pb ∧ b = (((vJ n.kind ++ vJ n.prio) ++ vJ 1) ++ pb) ++ tl) ∨ (n.ch = false ∧ b = ((vJ n.kind ++ vJ n.prio) ++ vJ 0) ++ tl))) ∨
    ((n.kind = 3 ∨ n.kind = 4) ∧ (0 ≤ n.prio ∧ n.prio ≤ 1000) ∧ ∃ tl,uY xV n.next = some tl ∧ b = ((vJ n.kind ++ vJ n.prio) ++ vJ (n.next.length : Int)) ++ tl) := by
  have one : ∀ {l : List (Int × Int)} {r : List UInt8},oneO l = some r → uY xV l = some r := fun {l r} h => by
    rcases l with _ | ⟨e,_ | ⟨e',l⟩⟩
    · cases h
    · show xM (xV e) (some []) = some r
      rw [show xV e = some r from h,catO_some,List.append_nil]
    · cases h
  have e1 : vJ 1 = [1] := by unfold vJ;rw [show (1 : Int).toNat = 1 from rfl,encU_lt (by decide)];rfl
  have e0 : vJ 0 = [0] := by unfold vJ;rw [show (0 : Int).toNat = 0 from rfl,encU_lt (by decide)];rfl
  unfold wJ at h
  split at h
  · rename_i hk
    obtain ⟨a,_,h1,j1,rfl⟩ := xO.1 h
    obtain ⟨_,_,h2,j2,rfl⟩ := xO.1 j1
    obtain ⟨_,_,h3,j3,rfl⟩ := xO.1 j2
    obtain ⟨_,_,h4,h5,rfl⟩ := xO.1 j3
    obtain ⟨_,rfl⟩ := mustO_iff.1 h2
    obtain ⟨_,rfl⟩ := mustO_iff.1 h3
    obtain ⟨_,rfl⟩ := mustO_iff.1 h4
    obtain ⟨hl,rfl⟩ := mustO_iff.1 h5
    have hl := of_decide_eq_true hl
    exact .inl ⟨hk,List.length_eq_zero_iff.1 (by omega),by rw [(numO_eq h1).2.2];simp⟩
  split at h
  · rename_i hk
    obtain ⟨a,_,h1,j1,rfl⟩ := xO.1 h
    obtain ⟨_,_,h2,j2,rfl⟩ := xO.1 j1
    obtain ⟨_,_,h3,j3,rfl⟩ := xO.1 j2
    obtain ⟨_,tl,h4,h5,rfl⟩ := xO.1 j3
    obtain ⟨_,rfl⟩ := mustO_iff.1 h2
    obtain ⟨_,rfl⟩ := mustO_iff.1 h3
    obtain ⟨_,rfl⟩ := mustO_iff.1 h4
    exact .inr (.inl ⟨hk,tl,one h5,by rw [(numO_eq h1).2.2];simp⟩)
  split at h
  · rename_i hk
    obtain ⟨a,_,h1,j1,rfl⟩ := xO.1 h
    obtain ⟨_,_,h2,j2,rfl⟩ := xO.1 j1
    obtain ⟨c,_,h3,j3,rfl⟩ := xO.1 j2
    obtain ⟨f,_,h4,j4,rfl⟩ := xO.1 j3
    obtain ⟨pb,tl,h5,h6,rfl⟩ := xO.1 j4
    obtain ⟨_,rfl⟩ := mustO_iff.1 h2
    have g1 := numO_eq h1
    have g3 := numO_eq h3
    refine .inr (.inr (.inl ⟨hk,⟨g3.1,g3.2.1⟩,tl,one h6,?_⟩))
    rw [g1.2.2,g3.2.2]
    cases hc : n.ch with
    | true =>
      rw [hc] at h4 h5
      cases h4
      exact .inl ⟨rfl,pb,h5,by rw [e1];simp⟩
    | false =>
      rw [hc] at h4 h5
      cases h4
      cases h5
      exact .inr ⟨rfl,by rw [e0];simp⟩
  split at h
  · rename_i hk
    obtain ⟨a,_,h1,j1,rfl⟩ := xO.1 h
    obtain ⟨_,_,h2,j2,rfl⟩ := xO.1 j1
    obtain ⟨c,_,h3,j3,rfl⟩ := xO.1 j2
    obtain ⟨_,_,h4,h5,rfl⟩ := xO.1 j3
    obtain ⟨_,rfl⟩ := mustO_iff.1 h2
    obtain ⟨_,rfl⟩ := mustO_iff.1 h4
    obtain ⟨_,_,l,tl,h6,h7,rfl⟩ := uW h5
    have g1 := numO_eq h1
    have g3 := numO_eq h3
    have g6 := numO_eq h6
    exact .inr (.inr (.inr ⟨hk,⟨g3.1,g3.2.1⟩,tl,h7,by rw [g1.2.2,g3.2.2,g6.2.2];simp⟩))
  · cases h
attribute [local irreducible] callFunc Go.method J JL JO JR JR1 JRl Ct JG JM JM1 JW JW1 JQ JQ0 JS CtD xB ints by8 chkA tJ yB uK wZ temO wJ staO sec1O sec2O sec3O wK xV oneO wH prmO insO arO mayB
set_option synthInstance.maxHeartbeats 400000 in
set_option synthInstance.maxSize 2000 in
set_option maxHeartbeats 4000000 in
theorem dmay_c (m : Mdl) (hB : BndM m) : Ct Tryz.prog 23 #[.agg (vN m).toArray] [uK m] (wF (.bool (mayB m)) []) := by
  have n1' : ∀ x ∈ m.nodes,(wJ x).isSome = false → mayB m = false := fun _ => may_1
  have n2' : ∀ x ∈ m.temps,(temO x).isSome = false → mayB m = false := fun _ => may_2
  have n3' : ∀ x ∈ m.chans,(xV x).isSome = false → mayB m = false := fun _ => may_3
  have n4' : ∀ x ∈ m.starts,(staO x).isSome = false → mayB m = false := fun _ => may_4
  have hok := may_ok (m := m)
  obtain ⟨v,hv⟩ : ∃ v,v = mayB m := ⟨_,rfl⟩
  rw [← hv] at n1' n2' n3' n4' hok ⊢
  clear hv
  obtain ⟨b1,b2,b3,b4⟩ := hB
  refine Ct.heap (modR7 m) ?_
  obtain ⟨ns,⟨p1,k1⟩,ts,⟨p2,k2⟩,cs,⟨p3,k3⟩,ss,⟨p4,k4⟩,u1,u1a,u2,u2a,u3,u3a,u4,u4a⟩ := m
  dsimp only at n1' n2' n3' n4' hok b1 b2 b3 b4 ⊢
  refine yE (vs := [.agg [slc (p1,k1) ns.length,slc (p2,k2) ts.length,slc (p3,k3) cs.length,slc (p4,k4) ss.length,slc u1a u1.length,slc u2a u2.length,slc u3a u3.length,slc u4a u4.length].toArray]) Tryz.func23 rfl Tryz.ntmps23 (by simp) ?_
  repeat (first|(first|refine zB ?_|refine zE ?_|refine zG ?_)|(first|((first|refine zA rfl ?_);first|refine zC rfl rfl ?_|refine yN rfl rfl (fun r => ?_))))
  revert r
  intro n1
  refine uI (α := { _u : Unit // ∀ x ∈ ns,(wJ x).isSome = true }) (fun _ => [(1,ptr n1)]) (fun _ => [pt n1 (.cells [slc (p1,k1) ns.length,slc (p2,k2) ts.length,slc (p3,k3) cs.length,slc (p4,k4) ss.length,slc u1a u1.length,slc u2a u2.length,slc u3a u3.length,slc u4a u4.length].toArray 28 (0,0)),Vw 6 (slc (p1,k1) ns.length) ns.length (ns.flatMap xR),yB wG ns,Vw 3 (slc (p2,k2) ts.length) ts.length (ts.flatMap wA),yB wS ts,Vw 2 (slc (p3,k3) cs.length) cs.length (cs.flatMap yI),Vw 2 (slc (p4,k4) ss.length) ss.length (ss.flatMap vE),yB StaQ ss]) ?_ ?_
  · repeat (first|(first|refine zK ?_)|(first|((first|refine zA rfl ?_);first|refine zD rfl rfl ?_)))
    refine xU (β := { i : Nat // i ≤ ns.length ∧ ∀ x ∈ ns.take i,(wJ x).isSome = true }) (fun i => [(1,ptr n1),(3,.int .i64 (i.1 : Int))]) (fun _ => []) (fun _ => [pt n1 (.cells [slc (p1,k1) ns.length,slc (p2,k2) ts.length,slc (p3,k3) cs.length,slc (p4,k4) ss.length,slc u1a u1.length,slc u2a u2.length,slc u3a u3.length,slc u4a u4.length].toArray 28 (0,0)),Vw 6 (slc (p1,k1) ns.length) ns.length (ns.flatMap xR),yB wG ns,Vw 3 (slc (p2,k2) ts.length) ts.length (ts.flatMap wA),yB wS ts,Vw 2 (slc (p3,k3) cs.length) cs.length (cs.flatMap yI),Vw 2 (slc (p4,k4) ss.length) ss.length (ss.flatMap vE),yB StaQ ss]) (fun i => ns.length - i.1) ⟨0,by omega,by simp⟩ ?_ rfl Ent.sel ?_
    · (repeat (first|exact zM _|refine zI rfl ?_))
    rintro ⟨i,hi,hg⟩
    dsimp only
    by_cases hil : i < ns.length
    · obtain ⟨x,hx⟩ : ∃ x,ns[i]? = some x := ⟨_,List.getElem?_eq_getElem hil⟩
      have hxm := List.mem_of_getElem? hx
      refine wE (φ := ∃ b o,p1 = some ⟨b,o,none⟩) (fun F w hs => (Ent.sel (K := [Vw 6 (slc (p1,k1) ns.length) ns.length (ns.flatMap xR)]) F w hs).tail.out (fun k hk => xW (by omega) k hk)) (fun hp => ?_)
      obtain ⟨q1,o1,rfl⟩ := hp
      refine J_all wG ns x pers_nodR hxm ?_
      have c := dnode_c x (b1.2 x hxm)
      cases hb : (wJ x).isSome with
      | false =>
        rw [hb] at c
        obtain rfl := n1' x hxm hb
        repeat (first|(first|refine zB ?_|refine zE ?_|refine zG ?_|refine zK ?_|refine zP ?_|refine zL rfl ?_|refine zV ?_)|(first|((first|refine zA rfl ?_);first|refine JOq (yH rfl rfl (by omega)) rfl ?_|refine wI rfl rfl hil rfl ?_|refine JOq (xF (xR x) rfl (fun u z hu => xG (b := q1) (o := o1) (n := ns.length) (cap := k1) (j := i) hil (by rw [yY nodC_len _ _ _ _ (by have := (List.getElem?_eq_some_iff.1 hu).1;exact this) hx];exact hu)) rfl) rfl ?_|refine zD rfl rfl ?_|refine zC rfl rfl ?_|refine yF rfl rfl ?_|refine zF rfl rfl ?_|refine zH rfl rfl ?_|refine xD rfl rfl ?_|refine zR rfl (c) rfl ?_)))
        exact zY rfl rfl .nil
      | true =>
        rw [hb] at c
        repeat (first|(first|refine zB ?_|refine zE ?_|refine zG ?_|refine zK ?_|refine zP ?_|refine zL rfl ?_|refine zJ rfl ?_)|(first|((first|refine zA rfl ?_);first|refine JOq (yH rfl rfl (by omega)) rfl ?_|refine wI rfl rfl hil rfl ?_|refine JOq (xF (xR x) rfl (fun u z hu => xG (b := q1) (o := o1) (n := ns.length) (cap := k1) (j := i) hil (by rw [yY nodC_len _ _ _ _ (by have := (List.getElem?_eq_some_iff.1 hu).1;exact this) hx];exact hu)) rfl) rfl ?_|refine yZ (b := 1) rfl rfl (by omega) rfl ?_|refine zD rfl rfl ?_|refine zC rfl rfl ?_|refine yF rfl rfl ?_|refine zF rfl rfl ?_|refine zH rfl rfl ?_|refine xD rfl rfl ?_|refine zR rfl (c) rfl ?_)))
        exact ⟨⟨i + 1,by omega,take_good hx hg hb⟩,by simp only;omega,by (repeat (first|exact zM _|refine zI rfl ?_)),rfl,Ent.sel⟩
    · obtain rfl : i = ns.length := by omega
      rw [List.take_length] at hg
      repeat (first|(first|refine zB ?_|refine zE ?_|refine zG ?_|refine zJ rfl ?_|refine xA ?_)|(first|((first|refine zA rfl ?_);first|refine JOq (yS rfl rfl (by omega)) rfl ?_|refine zD rfl rfl ?_|refine yF rfl rfl ?_|refine zF rfl rfl ?_|refine zH rfl rfl ?_)))
      exact ⟨⟨(),hg⟩,by (repeat (first|exact zM _|refine zI rfl ?_)),rfl,Ent.sel⟩
  rintro ⟨⟨⟩,hg1⟩
  dsimp only [thn]
  repeat (first|(first|refine zB ?_|refine zE ?_|refine zG ?_)|(first|((first|refine zA rfl ?_);first|refine zC rfl rfl ?_)))
  refine uI (α := { _u : Unit // ∀ x ∈ ts,(temO x).isSome = true }) (fun _ => [(1,ptr n1)]) (fun _ => [pt n1 (.cells [slc (p1,k1) ns.length,slc (p2,k2) ts.length,slc (p3,k3) cs.length,slc (p4,k4) ss.length,slc u1a u1.length,slc u2a u2.length,slc u3a u3.length,slc u4a u4.length].toArray 28 (0,0)),Vw 6 (slc (p1,k1) ns.length) ns.length (ns.flatMap xR),yB wG ns,Vw 3 (slc (p2,k2) ts.length) ts.length (ts.flatMap wA),yB wS ts,Vw 2 (slc (p3,k3) cs.length) cs.length (cs.flatMap yI),Vw 2 (slc (p4,k4) ss.length) ss.length (ss.flatMap vE),yB StaQ ss]) ?_ ?_
  · repeat (first|(first|refine zK ?_)|(first|((first|refine zA rfl ?_);first|refine zD rfl rfl ?_)))
    refine xU (β := { i : Nat // i ≤ ts.length ∧ ∀ x ∈ ts.take i,(temO x).isSome = true }) (fun i => [(1,ptr n1),(4,.int .i64 (i.1 : Int))]) (fun _ => []) (fun _ => [pt n1 (.cells [slc (p1,k1) ns.length,slc (p2,k2) ts.length,slc (p3,k3) cs.length,slc (p4,k4) ss.length,slc u1a u1.length,slc u2a u2.length,slc u3a u3.length,slc u4a u4.length].toArray 28 (0,0)),Vw 6 (slc (p1,k1) ns.length) ns.length (ns.flatMap xR),yB wG ns,Vw 3 (slc (p2,k2) ts.length) ts.length (ts.flatMap wA),yB wS ts,Vw 2 (slc (p3,k3) cs.length) cs.length (cs.flatMap yI),Vw 2 (slc (p4,k4) ss.length) ss.length (ss.flatMap vE),yB StaQ ss]) (fun i => ts.length - i.1) ⟨0,by omega,by simp⟩ ?_ rfl Ent.sel ?_
    · (repeat (first|exact zM _|refine zI rfl ?_))
    rintro ⟨i,hi,hg⟩
    dsimp only
    by_cases hil : i < ts.length
    · obtain ⟨x,hx⟩ : ∃ x,ts[i]? = some x := ⟨_,List.getElem?_eq_getElem hil⟩
      have hxm := List.mem_of_getElem? hx
      refine wE (φ := ∃ b o,p2 = some ⟨b,o,none⟩) (fun F w hs => (Ent.sel (K := [Vw 3 (slc (p2,k2) ts.length) ts.length (ts.flatMap wA)]) F w hs).tail.out (fun k hk => xW (by omega) k hk)) (fun hp => ?_)
      obtain ⟨q1,o1,rfl⟩ := hp
      refine J_all wS ts x pers_temR hxm ?_
      have c := dtemplate_c x (b2.2 x hxm).1 (b2.2 x hxm).2
      cases hb : (temO x).isSome with
      | false =>
        rw [hb] at c
        obtain rfl := n2' x hxm hb
        repeat (first|(first|refine zB ?_|refine zE ?_|refine zG ?_|refine zK ?_|refine zP ?_|refine zL rfl ?_|refine zV ?_)|(first|((first|refine zA rfl ?_);first|refine JOq (yH rfl rfl (by omega)) rfl ?_|refine wI rfl rfl hil rfl ?_|refine JOq (xF (wA x) rfl (fun u z hu => xG (b := q1) (o := o1) (n := ts.length) (cap := k2) (j := i) hil (by rw [yY temC_len _ _ _ _ (by have := (List.getElem?_eq_some_iff.1 hu).1;exact this) hx];exact hu)) rfl) rfl ?_|refine zD rfl rfl ?_|refine zC rfl rfl ?_|refine yF rfl rfl ?_|refine zF rfl rfl ?_|refine zH rfl rfl ?_|refine xD rfl rfl ?_|refine zN rfl (c) rfl ?_)))
        exact zY rfl rfl .nil
      | true =>
        rw [hb] at c
        repeat (first|(first|refine zB ?_|refine zE ?_|refine zG ?_|refine zK ?_|refine zP ?_|refine zL rfl ?_|refine zJ rfl ?_)|(first|((first|refine zA rfl ?_);first|refine JOq (yH rfl rfl (by omega)) rfl ?_|refine wI rfl rfl hil rfl ?_|refine JOq (xF (wA x) rfl (fun u z hu => xG (b := q1) (o := o1) (n := ts.length) (cap := k2) (j := i) hil (by rw [yY temC_len _ _ _ _ (by have := (List.getElem?_eq_some_iff.1 hu).1;exact this) hx];exact hu)) rfl) rfl ?_|refine yZ (b := 1) rfl rfl (by omega) rfl ?_|refine zD rfl rfl ?_|refine zC rfl rfl ?_|refine yF rfl rfl ?_|refine zF rfl rfl ?_|refine zH rfl rfl ?_|refine xD rfl rfl ?_|refine zN rfl (c) rfl ?_)))
        exact ⟨⟨i + 1,by omega,take_good hx hg hb⟩,by simp only;omega,by (repeat (first|exact zM _|refine zI rfl ?_)),rfl,Ent.sel⟩
    · obtain rfl : i = ts.length := by omega
      rw [List.take_length] at hg
      repeat (first|(first|refine zB ?_|refine zE ?_|refine zG ?_|refine zJ rfl ?_|refine xA ?_)|(first|((first|refine zA rfl ?_);first|refine JOq (yS rfl rfl (by omega)) rfl ?_|refine zD rfl rfl ?_|refine yF rfl rfl ?_|refine zF rfl rfl ?_|refine zH rfl rfl ?_)))
      exact ⟨⟨(),hg⟩,by (repeat (first|exact zM _|refine zI rfl ?_)),rfl,Ent.sel⟩
  rintro ⟨⟨⟩,hg2⟩
  dsimp only [thn]
  repeat (first|(first|refine zB ?_|refine zE ?_|refine zG ?_)|(first|((first|refine zA rfl ?_);first|refine zC rfl rfl ?_)))
  refine uI (α := { _u : Unit // ∀ x ∈ cs,(xV x).isSome = true }) (fun _ => [(1,ptr n1)]) (fun _ => [pt n1 (.cells [slc (p1,k1) ns.length,slc (p2,k2) ts.length,slc (p3,k3) cs.length,slc (p4,k4) ss.length,slc u1a u1.length,slc u2a u2.length,slc u3a u3.length,slc u4a u4.length].toArray 28 (0,0)),Vw 6 (slc (p1,k1) ns.length) ns.length (ns.flatMap xR),yB wG ns,Vw 3 (slc (p2,k2) ts.length) ts.length (ts.flatMap wA),yB wS ts,Vw 2 (slc (p3,k3) cs.length) cs.length (cs.flatMap yI),Vw 2 (slc (p4,k4) ss.length) ss.length (ss.flatMap vE),yB StaQ ss]) ?_ ?_
  · repeat (first|(first|refine zK ?_)|(first|((first|refine zA rfl ?_);first|refine zD rfl rfl ?_)))
    refine xU (β := { i : Nat // i ≤ cs.length ∧ ∀ x ∈ cs.take i,(xV x).isSome = true }) (fun i => [(1,ptr n1),(5,.int .i64 (i.1 : Int))]) (fun _ => []) (fun _ => [pt n1 (.cells [slc (p1,k1) ns.length,slc (p2,k2) ts.length,slc (p3,k3) cs.length,slc (p4,k4) ss.length,slc u1a u1.length,slc u2a u2.length,slc u3a u3.length,slc u4a u4.length].toArray 28 (0,0)),Vw 6 (slc (p1,k1) ns.length) ns.length (ns.flatMap xR),yB wG ns,Vw 3 (slc (p2,k2) ts.length) ts.length (ts.flatMap wA),yB wS ts,Vw 2 (slc (p3,k3) cs.length) cs.length (cs.flatMap yI),Vw 2 (slc (p4,k4) ss.length) ss.length (ss.flatMap vE),yB StaQ ss]) (fun i => cs.length - i.1) ⟨0,by omega,by simp⟩ ?_ rfl Ent.sel ?_
    · (repeat (first|exact zM _|refine zI rfl ?_))
    rintro ⟨i,hi,hg⟩
    dsimp only
    by_cases hil : i < cs.length
    · obtain ⟨x,hx⟩ : ∃ x,cs[i]? = some x := ⟨_,List.getElem?_eq_getElem hil⟩
      have hxm := List.mem_of_getElem? hx
      refine wE (φ := ∃ b o,p3 = some ⟨b,o,none⟩) (fun F w hs => (Ent.sel (K := [Vw 2 (slc (p3,k3) cs.length) cs.length (cs.flatMap yI)]) F w hs).tail.out (fun k hk => xW (by omega) k hk)) (fun hp => ?_)
      obtain ⟨q1,o1,rfl⟩ := hp
      have c := dtyp_c x
      cases hb : (xV x).isSome with
      | false =>
        rw [hb] at c
        obtain rfl := n3' x hxm hb
        repeat (first|(first|refine zB ?_|refine zE ?_|refine zG ?_|refine zK ?_|refine zP ?_|refine zL rfl ?_|refine zV ?_)|(first|((first|refine zA rfl ?_);first|refine JOq (yH rfl rfl (by omega)) rfl ?_|refine wI rfl rfl hil rfl ?_|refine JOq (xF (yI x) rfl (fun u z hu => xG (b := q1) (o := o1) (n := cs.length) (cap := k3) (j := i) hil (by rw [yY edgeC_len _ _ _ _ (by have := (List.getElem?_eq_some_iff.1 hu).1;exact this) hx];exact hu)) rfl) rfl ?_|refine zD rfl rfl ?_|refine zC rfl rfl ?_|refine yF rfl rfl ?_|refine zF rfl rfl ?_|refine zH rfl rfl ?_|refine xD rfl rfl ?_|refine zR rfl (c) rfl ?_)))
        exact zY rfl rfl .nil
      | true =>
        rw [hb] at c
        repeat (first|(first|refine zB ?_|refine zE ?_|refine zG ?_|refine zK ?_|refine zP ?_|refine zL rfl ?_|refine zJ rfl ?_)|(first|((first|refine zA rfl ?_);first|refine JOq (yH rfl rfl (by omega)) rfl ?_|refine wI rfl rfl hil rfl ?_|refine JOq (xF (yI x) rfl (fun u z hu => xG (b := q1) (o := o1) (n := cs.length) (cap := k3) (j := i) hil (by rw [yY edgeC_len _ _ _ _ (by have := (List.getElem?_eq_some_iff.1 hu).1;exact this) hx];exact hu)) rfl) rfl ?_|refine yZ (b := 1) rfl rfl (by omega) rfl ?_|refine zD rfl rfl ?_|refine zC rfl rfl ?_|refine yF rfl rfl ?_|refine zF rfl rfl ?_|refine zH rfl rfl ?_|refine xD rfl rfl ?_|refine zR rfl (c) rfl ?_)))
        exact ⟨⟨i + 1,by omega,take_good hx hg hb⟩,by simp only;omega,by (repeat (first|exact zM _|refine zI rfl ?_)),rfl,Ent.sel⟩
    · obtain rfl : i = cs.length := by omega
      rw [List.take_length] at hg
      repeat (first|(first|refine zB ?_|refine zE ?_|refine zG ?_|refine zJ rfl ?_|refine xA ?_)|(first|((first|refine zA rfl ?_);first|refine JOq (yS rfl rfl (by omega)) rfl ?_|refine zD rfl rfl ?_|refine yF rfl rfl ?_|refine zF rfl rfl ?_|refine zH rfl rfl ?_)))
      exact ⟨⟨(),hg⟩,by (repeat (first|exact zM _|refine zI rfl ?_)),rfl,Ent.sel⟩
  rintro ⟨⟨⟩,hg3⟩
  dsimp only [thn]
  repeat (first|(first|refine zB ?_|refine zE ?_|refine zG ?_)|(first|((first|refine zA rfl ?_);first|refine zC rfl rfl ?_)))
  refine uI (α := { _u : Unit // ∀ x ∈ ss,(staO x).isSome = true }) (fun _ => [(1,ptr n1)]) (fun _ => [pt n1 (.cells [slc (p1,k1) ns.length,slc (p2,k2) ts.length,slc (p3,k3) cs.length,slc (p4,k4) ss.length,slc u1a u1.length,slc u2a u2.length,slc u3a u3.length,slc u4a u4.length].toArray 28 (0,0)),Vw 6 (slc (p1,k1) ns.length) ns.length (ns.flatMap xR),yB wG ns,Vw 3 (slc (p2,k2) ts.length) ts.length (ts.flatMap wA),yB wS ts,Vw 2 (slc (p3,k3) cs.length) cs.length (cs.flatMap yI),Vw 2 (slc (p4,k4) ss.length) ss.length (ss.flatMap vE),yB StaQ ss]) ?_ ?_
  · repeat (first|(first|refine zK ?_)|(first|((first|refine zA rfl ?_);first|refine zD rfl rfl ?_)))
    refine xU (β := { i : Nat // i ≤ ss.length ∧ ∀ x ∈ ss.take i,(staO x).isSome = true }) (fun i => [(1,ptr n1),(6,.int .i64 (i.1 : Int))]) (fun _ => []) (fun _ => [pt n1 (.cells [slc (p1,k1) ns.length,slc (p2,k2) ts.length,slc (p3,k3) cs.length,slc (p4,k4) ss.length,slc u1a u1.length,slc u2a u2.length,slc u3a u3.length,slc u4a u4.length].toArray 28 (0,0)),Vw 6 (slc (p1,k1) ns.length) ns.length (ns.flatMap xR),yB wG ns,Vw 3 (slc (p2,k2) ts.length) ts.length (ts.flatMap wA),yB wS ts,Vw 2 (slc (p3,k3) cs.length) cs.length (cs.flatMap yI),Vw 2 (slc (p4,k4) ss.length) ss.length (ss.flatMap vE),yB StaQ ss]) (fun i => ss.length - i.1) ⟨0,by omega,by simp⟩ ?_ rfl Ent.sel ?_
    · (repeat (first|exact zM _|refine zI rfl ?_))
    rintro ⟨i,hi,hg⟩
    dsimp only
    by_cases hil : i < ss.length
    · obtain ⟨x,hx⟩ : ∃ x,ss[i]? = some x := ⟨_,List.getElem?_eq_getElem hil⟩
      have hxm := List.mem_of_getElem? hx
      refine wE (φ := ∃ b o,p4 = some ⟨b,o,none⟩) (fun F w hs => (Ent.sel (K := [Vw 2 (slc (p4,k4) ss.length) ss.length (ss.flatMap vE)]) F w hs).tail.out (fun k hk => xW (by omega) k hk)) (fun hp => ?_)
      obtain ⟨q1,o1,rfl⟩ := hp
      refine J_all StaQ ss x pers_staQ hxm ?_
      refine wQ (StaQ x) ?_
      refine xQ staR_of ?_
      have c := dstart_c x (b4.2 x hxm)
      cases hb : (staO x).isSome with
      | false =>
        rw [hb] at c
        obtain rfl := n4' x hxm hb
        repeat (first|(first|refine zB ?_|refine zE ?_|refine zG ?_|refine zK ?_|refine zP ?_|refine zL rfl ?_|refine zV ?_)|(first|((first|refine zA rfl ?_);first|refine JOq (yH rfl rfl (by omega)) rfl ?_|refine wI rfl rfl hil rfl ?_|refine JOq (xF (vE x) rfl (fun u z hu => xG (b := q1) (o := o1) (n := ss.length) (cap := k4) (j := i) hil (by rw [yY staC_len _ _ _ _ (by have := (List.getElem?_eq_some_iff.1 hu).1;exact this) hx];exact hu)) rfl) rfl ?_|refine zD rfl rfl ?_|refine zC rfl rfl ?_|refine yF rfl rfl ?_|refine zF rfl rfl ?_|refine zH rfl rfl ?_|refine xD rfl rfl ?_|refine zR rfl (c) rfl ?_)))
        exact zY rfl rfl .nil
      | true =>
        rw [hb] at c
        repeat (first|(first|refine zB ?_|refine zE ?_|refine zG ?_|refine zK ?_|refine zP ?_|refine zL rfl ?_|refine zJ rfl ?_)|(first|((first|refine zA rfl ?_);first|refine JOq (yH rfl rfl (by omega)) rfl ?_|refine wI rfl rfl hil rfl ?_|refine JOq (xF (vE x) rfl (fun u z hu => xG (b := q1) (o := o1) (n := ss.length) (cap := k4) (j := i) hil (by rw [yY staC_len _ _ _ _ (by have := (List.getElem?_eq_some_iff.1 hu).1;exact this) hx];exact hu)) rfl) rfl ?_|refine yZ (b := 1) rfl rfl (by omega) rfl ?_|refine zD rfl rfl ?_|refine zC rfl rfl ?_|refine yF rfl rfl ?_|refine zF rfl rfl ?_|refine zH rfl rfl ?_|refine xD rfl rfl ?_|refine zR rfl (c) rfl ?_)))
        exact ⟨⟨i + 1,by omega,take_good hx hg hb⟩,by simp only;omega,by (repeat (first|exact zM _|refine zI rfl ?_)),rfl,Ent.sel⟩
    · obtain rfl : i = ss.length := by omega
      rw [List.take_length] at hg
      repeat (first|(first|refine zB ?_|refine zE ?_|refine zG ?_|refine zJ rfl ?_|refine xA ?_)|(first|((first|refine zA rfl ?_);first|refine JOq (yS rfl rfl (by omega)) rfl ?_|refine zD rfl rfl ?_|refine yF rfl rfl ?_|refine zF rfl rfl ?_|refine zH rfl rfl ?_)))
      exact ⟨⟨(),hg⟩,by (repeat (first|exact zM _|refine zI rfl ?_)),rfl,Ent.sel⟩
  rintro ⟨⟨⟩,hg4⟩
  dsimp only [thn]
  obtain rfl := hok hg1 hg2 hg3 hg4
  by_cases g0 : (ns.length : Int) ≤ 64
  · skip
    by_cases g1 : (ts.length : Int) ≤ 16
    · skip
      by_cases g2 : (cs.length : Int) ≤ 16
      · skip
        by_cases g3 : (ss.length : Int) ≤ 8
        · skip
          rw [decide_eq_true g0,decide_eq_true g1,decide_eq_true g2,decide_eq_true g3]
          repeat (first|(first|refine zB ?_|refine zE ?_|refine zG ?_|refine zV ?_)|(first|((first|refine zA rfl ?_|refine zZ rfl rfl ?_);first|refine JOq (JQ_leqT rfl rfl (by omega)) rfl ?_|refine zD rfl rfl ?_|refine zC rfl rfl ?_|refine yF rfl rfl ?_|refine zF rfl rfl ?_|refine zH rfl rfl ?_|refine yA rfl rfl rfl ?_)))
          exact zY rfl rfl .nil
        · rw [decide_eq_true g0,decide_eq_true g1,decide_eq_true g2,decide_eq_false g3]
          repeat (first|(first|refine zB ?_|refine zE ?_|refine zG ?_|refine zV ?_)|(first|((first|refine zA rfl ?_|refine zZ rfl rfl ?_);first|refine JOq (JQ_leqT rfl rfl (by omega)) rfl ?_|refine JOq (JQ_leqF rfl rfl (by omega)) rfl ?_|refine zD rfl rfl ?_|refine zC rfl rfl ?_|refine yF rfl rfl ?_|refine zF rfl rfl ?_|refine zH rfl rfl ?_|refine yA rfl rfl rfl ?_)))
          exact zY rfl rfl .nil
      · rw [decide_eq_true g0,decide_eq_true g1,decide_eq_false g2]
        repeat (first|(first|refine zB ?_|refine zE ?_|refine zG ?_|refine zV ?_)|(first|((first|refine zA rfl ?_|refine zZ rfl rfl ?_);first|refine JOq (JQ_leqT rfl rfl (by omega)) rfl ?_|refine JOq (JQ_leqF rfl rfl (by omega)) rfl ?_|refine zD rfl rfl ?_|refine zC rfl rfl ?_|refine yF rfl rfl ?_|refine zF rfl rfl ?_|refine zH rfl rfl ?_|refine yA rfl rfl rfl ?_|refine yJ rfl rfl rfl ?_)|refine yU rfl rfl rfl ?_))
        exact zY rfl rfl .nil
    · rw [decide_eq_true g0,decide_eq_false g1]
      repeat (first|(first|refine zB ?_|refine zE ?_|refine zG ?_|refine zV ?_)|(first|((first|refine zA rfl ?_|refine zZ rfl rfl ?_);first|refine JOq (JQ_leqT rfl rfl (by omega)) rfl ?_|refine JOq (JQ_leqF rfl rfl (by omega)) rfl ?_|refine zD rfl rfl ?_|refine zC rfl rfl ?_|refine yF rfl rfl ?_|refine zF rfl rfl ?_|refine zH rfl rfl ?_|refine yA rfl rfl rfl ?_|refine yJ rfl rfl rfl ?_)|refine yU rfl rfl rfl ?_))
      exact zY rfl rfl .nil
  · rw [decide_eq_false g0]
    repeat (first|(first|refine zB ?_|refine zE ?_|refine zG ?_|refine zV ?_)|(first|((first|refine zA rfl ?_);first|refine JOq (JQ_leqF rfl rfl (by omega)) rfl ?_|refine zD rfl rfl ?_|refine zC rfl rfl ?_|refine yF rfl rfl ?_|refine zF rfl rfl ?_|refine zH rfl rfl ?_|refine yJ rfl rfl rfl ?_)|refine yU rfl rfl rfl ?_))
    exact zY rfl rfl .nil
theorem mapO_take {α : Type} {o : α → OB} {l : List α} {i : Nat} {x : α} {r c : List UInt8} (hx : l[i]? = some x) (h : uY o (l.take i) = some r) (hc : o x = some c) : uY o (l.take (i + 1)) = some (r ++ c) := by
  rw [List.take_add_one,hx]
  show uY o (l.take i ++ [x]) = _
  rw [mapO_snoc,h,hc,catO_some]
theorem mapO_take_len {α : Type} {o : α → OB} {l : List α} {i b : Nat} {r : List UInt8} (h : uY o (l.take i) = some r) (hl : l.length ≤ 100000) (hb : b ≤ 100000) (ho : ∀ x c,o x = some c → c.length ≤ b) : r.length ≤ 10000000000 := by
  have h1 := mapO_len (cost := fun _ => b) ho h
  have h2 := uL (f := fun _ : α => b) (b := b) (l := l.take i) fun _ _ => Nat.le_refl _
  have h3 : (l.take i).length * b ≤ 100000 * 100000 := Nat.mul_le_mul (by rw [List.length_take];omega) hb
  omega
theorem uD {n : Int} (h : 0 ≤ n ∧ n ≤ 1000000) : (vJ n).length ≤ 10 := vM (by omega)
set_option maxHeartbeats 4000000 in
theorem dlayNode_c {n : Nod} {b : List UInt8} (h : wJ n = some b) (hb : n.next.length ≤ 100000) : Ct Tryz.prog 25 #[.agg (xR n).toArray] [wG n] (wF (str b) []) := by
  have hk := lay_nodeK h
  clear h
  obtain ⟨kind,prio,ch,⟨e1,e2⟩,next,⟨pn,kn⟩⟩ := n
  dsimp only at hk hb
  refine yE (vs := [.agg [.int .i64 kind,.int .i64 prio,.bool ch,.int .i64 e1,.int .i64 e2,slc (pn,kn) next.length].toArray]) Tryz.func25 rfl Tryz.ntmps25 (by simp) ?_
  repeat (first|(first|refine zB ?_|refine zE ?_|refine zG ?_)|(first|((first|refine zA rfl ?_);first|refine zC rfl rfl ?_|refine zF rfl rfl ?_|refine zH rfl rfl ?_|refine yN rfl rfl (fun r => ?_))))
  revert r
  intro n1
  rcases hk with ⟨rfl,rfl,rfl⟩ | hk
  · have c0 := dnum_c 0 (by decide)
    repeat (first|(first|refine zB ?_|refine zE ?_|refine zG ?_|refine zL rfl ?_|refine zV ?_)|(first|((first|refine zA rfl ?_);first|refine JOq (yT rfl rfl (by omega)) rfl ?_|refine zD rfl rfl ?_|refine zC rfl rfl ?_|refine zF rfl rfl ?_|refine zH rfl rfl ?_|refine zR rfl (c0) rfl ?_)))
    exact zY rfl rfl .nil
  obtain ⟨hd,tl,rfl,htl,hdl,hk⟩ : ∃ hd tl,b = hd ++ tl ∧ uY xV next = some tl ∧ hd.length ≤ 100 ∧ ((kind = 5 ∧ hd = vJ 5) ∨ ((kind = 1 ∨ kind = 2) ∧ (0 ≤ prio ∧ prio ≤ 1000) ∧ ((ch = true ∧ ∃ pb,xV (e1,e2) = some pb ∧ hd = (((vJ kind ++ vJ prio) ++ vJ 1) ++ pb)) ∨ (ch = false ∧ hd = ((vJ kind ++ vJ prio) ++ vJ 0)))) ∨ ((kind = 3 ∨ kind = 4) ∧ (0 ≤ prio ∧ prio ≤ 1000) ∧ hd = ((vJ kind ++ vJ prio) ++ vJ (next.length : Int)))) := by
    rcases hk with ⟨k5,tl,ht,rfl⟩ | ⟨k12,hp,tl,ht,⟨hc,pb,hpb,rfl⟩ | ⟨hc,rfl⟩⟩ | ⟨k34,hp,tl,ht,rfl⟩
    · have := uD (n := 5) (by omega)
      exact ⟨_,tl,rfl,ht,by omega,.inl ⟨k5,rfl⟩⟩
    · have := uD (n := kind) (by omega)
      have := uD (n := prio) (by omega)
      have := uD (n := 1) (by omega)
      have := vL hpb
      exact ⟨_,tl,rfl,ht,by simp only [List.length_append];omega,.inr (.inl ⟨k12,hp,.inl ⟨hc,pb,hpb,rfl⟩⟩)⟩
    · have := uD (n := kind) (by omega)
      have := uD (n := prio) (by omega)
      have := uD (n := 0) (by omega)
      exact ⟨_,tl,rfl,ht,by simp only [List.length_append];omega,.inr (.inl ⟨k12,hp,.inr ⟨hc,rfl⟩⟩)⟩
    · have := uD (n := kind) (by omega)
      have := uD (n := prio) (by omega)
      have := uD (n := (next.length : Int)) (by omega)
      exact ⟨_,tl,rfl,ht,by simp only [List.length_append];omega,.inr (.inr ⟨k34,hp,rfl⟩)⟩
  rcases hk with ⟨rfl,hhd⟩ | ⟨k12,hp,hk⟩ | ⟨k34,hp,hhd⟩
  · have c5 := dnum_c 5 (by decide)
    rw [← hhd] at c5
    repeat (first|(first|refine zB ?_|refine zE ?_|refine zG ?_|refine zK ?_|refine zP ?_|refine zJ rfl ?_)|(first|((first|refine zA rfl ?_|refine zZ rfl rfl ?_);first|refine JOq (yL rfl rfl (by omega)) rfl ?_|refine JOq (vW rfl rfl (by omega)) rfl ?_|refine zD rfl rfl ?_|refine zC rfl rfl ?_|refine zF rfl rfl ?_|refine zH rfl rfl ?_|refine yJ rfl rfl rfl ?_|refine zR rfl (c5) rfl ?_)))
    refine xU (β := { z : Nat × List UInt8 // z.1 ≤ next.length ∧ uY xV (next.take z.1) = some z.2 }) (fun z => [(1,ptr n1),(3,str (hd ++ z.1.2)),(4,.int .i64 (z.1.1 : Int))]) (fun _ => []) (fun _ => [pt n1 (.cells [.int .i64 5,.int .i64 prio,.bool ch,.int .i64 e1,.int .i64 e2,slc (pn,kn) next.length].toArray 58 (0,0)),Vw 2 (slc (pn,kn) next.length) next.length (next.flatMap yI)]) (fun z => next.length - z.1.1) ⟨(0,[]),by simp,rfl⟩ ?_ rfl Ent.sel ?_
    · dsimp only
      rw [List.append_nil]
      (repeat (first|exact zM _|refine zI rfl ?_))
    rintro ⟨⟨i,r⟩,hi,hr⟩
    dsimp only at hi hr ⊢
    by_cases hil : i < next.length
    · obtain ⟨x,hx⟩ : ∃ x,next[i]? = some x := ⟨_,List.getElem?_eq_getElem hil⟩
      obtain ⟨c,hc⟩ := mapO_mem htl x (List.mem_of_getElem? hx)
      have ce := dlayEdge_c hc
      have hrl := mapO_take_len (b := 20) hr hb (by decide) (fun x c => vL)
      have hcl := vL hc
      refine wE (φ := ∃ b o,pn = some ⟨b,o,none⟩) (fun F w hs => (Ent.sel (K := [Vw 2 (slc (pn,kn) next.length) next.length (next.flatMap yI)]) F w hs).tail.out (fun k hk => xW (by omega) k hk)) (fun hp => ?_)
      obtain ⟨q1,o1,rfl⟩ := hp
      repeat (first|(first|refine zB ?_|refine zE ?_|refine zG ?_|refine zK ?_|refine zP ?_|refine zL rfl ?_)|(first|((first|refine zA rfl ?_);first|refine JOq (yH rfl rfl (by omega)) rfl ?_|refine wI rfl rfl hil rfl ?_|refine JOq (xF (yI x) rfl (fun u z hu => xG (b := q1) (o := o1) (n := next.length) (cap := kn) (j := i) hil (by rw [yY edgeC_len _ _ _ _ (by have := (List.getElem?_eq_some_iff.1 hu).1;exact this) hx];exact hu)) rfl) rfl ?_|refine JOq (tD (r := hd ++ (r ++ c)) (List.append_assoc _ _ _) rfl rfl (by (try simp only [List.length_append]);omega)) rfl ?_|refine yZ (b := 1) rfl rfl (by omega) rfl ?_|refine zD rfl rfl ?_|refine zC rfl rfl ?_|refine yF rfl rfl ?_|refine zF rfl rfl ?_|refine zH rfl rfl ?_|refine zR rfl (ce) rfl ?_)))
      exact ⟨⟨(i + 1,r ++ c),by simp only;omega,mapO_take hx hr hc⟩,by simp only;omega,by (repeat (first|exact zM _|refine zI rfl ?_)),rfl,Ent.sel⟩
    · obtain rfl : i = next.length := by omega
      rw [List.take_length] at hr
      obtain rfl := Option.some.inj (hr.symm.trans htl)
      repeat (first|(first|refine zB ?_|refine zE ?_|refine zG ?_|refine zJ rfl ?_|refine xA ?_|refine zV ?_)|(first|((first|refine zA rfl ?_);first|refine JOq (yS rfl rfl (by omega)) rfl ?_|refine zD rfl rfl ?_|refine zC rfl rfl ?_|refine yF rfl rfl ?_|refine zF rfl rfl ?_|refine zH rfl rfl ?_)))
      exact zY rfl rfl .nil
  · have cp := dnum_c prio (by omega)
    have hlp := uD (n := prio) (by omega)
    have hl1 := uD (n := 1) (by omega)
    have hl0 := uD (n := 0) (by omega)
    rcases k12 with rfl | rfl
    · have ck := dnum_c 1 (by decide)
      have hlk := uD (n := 1) (by omega)
      rcases hk with ⟨rfl,pb,hpb,hhd⟩ | ⟨rfl,hhd⟩
      · have c1 := dnum_c 1 (by decide)
        have ce := dlayEdge_c hpb
        have hlb := vL hpb
        repeat (first|(first|refine zB ?_|refine zE ?_|refine zG ?_|refine zP ?_|refine zL rfl ?_|refine zJ rfl ?_)|(first|((first|refine zA rfl ?_);first|refine JOq (yT rfl rfl (by omega)) rfl ?_|refine JOq (yL rfl rfl (by omega)) rfl ?_|refine JOq (vS rfl rfl (by omega)) rfl ?_|refine JOq (uQ rfl rfl (by (try simp only [List.length_append]);omega)) rfl ?_|refine zD rfl rfl ?_|refine zC rfl rfl ?_|refine zF rfl rfl ?_|refine zH rfl rfl ?_|refine yA rfl rfl rfl ?_|refine zR rfl (ck) rfl ?_|refine zR rfl (cp) rfl ?_)|refine yU rfl rfl rfl ?_))
        repeat (first|refine vO ?_|refine tA rfl ?_|refine JG_n rfl rfl rfl (by kernel_rfl) (by kernel_rfl) rfl Ent.sel (by first|exact tD hhd.symm rfl rfl (by (try simp only [List.length_append]);omega)|exact uQ rfl rfl (by (try simp only [List.length_append]);omega)|exact xF [.int .i64 e1,.int .i64 e2] rfl (fun i u hu => wB (b := n1) (off := 3 + i) (pay_get hu)) rfl|exact xE rfl|exact vT rfl|exact xP rfl) ?_|refine JG_jo rfl rfl rfl uX (zR rfl (c1) rfl ⟨Ent.sel,?_⟩)|refine JG_jo rfl rfl rfl uX (zR rfl (ce) rfl ⟨Ent.sel,?_⟩))
        repeat (first|(first|refine zB ?_|refine zE ?_|refine zG ?_|refine zK ?_|refine zP ?_|refine zJ rfl ?_)|(first|((first|refine zA rfl ?_|refine zZ rfl rfl ?_);first|refine JOq (yL rfl rfl (by omega)) rfl ?_|refine zD rfl rfl ?_|refine zC rfl rfl ?_|refine zF rfl rfl ?_|refine zH rfl rfl ?_|refine yJ rfl rfl rfl ?_)))
        refine xU (β := { z : Nat × List UInt8 // z.1 ≤ next.length ∧ uY xV (next.take z.1) = some z.2 }) (fun z => [(1,ptr n1),(3,str (hd ++ z.1.2)),(4,.int .i64 (z.1.1 : Int))]) (fun _ => []) (fun _ => [pt n1 (.cells [.int .i64 1,.int .i64 prio,.bool true,.int .i64 e1,.int .i64 e2,slc (pn,kn) next.length].toArray 58 (0,0)),Vw 2 (slc (pn,kn) next.length) next.length (next.flatMap yI)]) (fun z => next.length - z.1.1) ⟨(0,[]),by simp,rfl⟩ ?_ rfl Ent.sel ?_
        · dsimp only
          rw [List.append_nil]
          (repeat (first|exact zM _|refine zI rfl ?_))
        rintro ⟨⟨i,r⟩,hi,hr⟩
        dsimp only at hi hr ⊢
        by_cases hil : i < next.length
        · obtain ⟨x,hx⟩ : ∃ x,next[i]? = some x := ⟨_,List.getElem?_eq_getElem hil⟩
          obtain ⟨c,hc⟩ := mapO_mem htl x (List.mem_of_getElem? hx)
          have ce := dlayEdge_c hc
          have hrl := mapO_take_len (b := 20) hr hb (by decide) (fun x c => vL)
          have hcl := vL hc
          refine wE (φ := ∃ b o,pn = some ⟨b,o,none⟩) (fun F w hs => (Ent.sel (K := [Vw 2 (slc (pn,kn) next.length) next.length (next.flatMap yI)]) F w hs).tail.out (fun k hk => xW (by omega) k hk)) (fun hp => ?_)
          obtain ⟨q1,o1,rfl⟩ := hp
          repeat (first|(first|refine zB ?_|refine zE ?_|refine zG ?_|refine zK ?_|refine zP ?_|refine zL rfl ?_)|(first|((first|refine zA rfl ?_);first|refine JOq (yH rfl rfl (by omega)) rfl ?_|refine wI rfl rfl hil rfl ?_|refine JOq (xF (yI x) rfl (fun u z hu => xG (b := q1) (o := o1) (n := next.length) (cap := kn) (j := i) hil (by rw [yY edgeC_len _ _ _ _ (by have := (List.getElem?_eq_some_iff.1 hu).1;exact this) hx];exact hu)) rfl) rfl ?_|refine JOq (tD (r := hd ++ (r ++ c)) (List.append_assoc _ _ _) rfl rfl (by (try simp only [List.length_append]);omega)) rfl ?_|refine yZ (b := 1) rfl rfl (by omega) rfl ?_|refine zD rfl rfl ?_|refine zC rfl rfl ?_|refine yF rfl rfl ?_|refine zF rfl rfl ?_|refine zH rfl rfl ?_|refine zR rfl (ce) rfl ?_)))
          exact ⟨⟨(i + 1,r ++ c),by simp only;omega,mapO_take hx hr hc⟩,by simp only;omega,by (repeat (first|exact zM _|refine zI rfl ?_)),rfl,Ent.sel⟩
        · obtain rfl : i = next.length := by omega
          rw [List.take_length] at hr
          obtain rfl := Option.some.inj (hr.symm.trans htl)
          repeat (first|(first|refine zB ?_|refine zE ?_|refine zG ?_|refine zJ rfl ?_|refine xA ?_|refine zV ?_)|(first|((first|refine zA rfl ?_);first|refine JOq (yS rfl rfl (by omega)) rfl ?_|refine zD rfl rfl ?_|refine zC rfl rfl ?_|refine yF rfl rfl ?_|refine zF rfl rfl ?_|refine zH rfl rfl ?_)))
          exact zY rfl rfl .nil
      · have c0 := dnum_c 0 (by decide)
        repeat (first|(first|refine zB ?_|refine zE ?_|refine zG ?_|refine zK ?_|refine zP ?_|refine zL rfl ?_|refine zJ rfl ?_)|(first|((first|refine zA rfl ?_|refine zZ rfl rfl ?_);first|refine JOq (yT rfl rfl (by omega)) rfl ?_|refine JOq (yL rfl rfl (by omega)) rfl ?_|refine JOq (vS rfl rfl (by omega)) rfl ?_|refine JOq (tD hhd.symm rfl rfl (by (try simp only [List.length_append]);omega)) rfl ?_|refine JOq (uQ rfl rfl (by (try simp only [List.length_append]);omega)) rfl ?_|refine zD rfl rfl ?_|refine zC rfl rfl ?_|refine zF rfl rfl ?_|refine zH rfl rfl ?_|refine yA rfl rfl rfl ?_|refine yJ rfl rfl rfl ?_|refine zR rfl (ck) rfl ?_|refine zR rfl (cp) rfl ?_|refine zR rfl (c0) rfl ?_)|refine yU rfl rfl rfl ?_))
        refine xU (β := { z : Nat × List UInt8 // z.1 ≤ next.length ∧ uY xV (next.take z.1) = some z.2 }) (fun z => [(1,ptr n1),(3,str (hd ++ z.1.2)),(4,.int .i64 (z.1.1 : Int))]) (fun _ => []) (fun _ => [pt n1 (.cells [.int .i64 1,.int .i64 prio,.bool false,.int .i64 e1,.int .i64 e2,slc (pn,kn) next.length].toArray 58 (0,0)),Vw 2 (slc (pn,kn) next.length) next.length (next.flatMap yI)]) (fun z => next.length - z.1.1) ⟨(0,[]),by simp,rfl⟩ ?_ rfl Ent.sel ?_
        · dsimp only
          rw [List.append_nil]
          (repeat (first|exact zM _|refine zI rfl ?_))
        rintro ⟨⟨i,r⟩,hi,hr⟩
        dsimp only at hi hr ⊢
        by_cases hil : i < next.length
        · obtain ⟨x,hx⟩ : ∃ x,next[i]? = some x := ⟨_,List.getElem?_eq_getElem hil⟩
          obtain ⟨c,hc⟩ := mapO_mem htl x (List.mem_of_getElem? hx)
          have ce := dlayEdge_c hc
          have hrl := mapO_take_len (b := 20) hr hb (by decide) (fun x c => vL)
          have hcl := vL hc
          refine wE (φ := ∃ b o,pn = some ⟨b,o,none⟩) (fun F w hs => (Ent.sel (K := [Vw 2 (slc (pn,kn) next.length) next.length (next.flatMap yI)]) F w hs).tail.out (fun k hk => xW (by omega) k hk)) (fun hp => ?_)
          obtain ⟨q1,o1,rfl⟩ := hp
          repeat (first|(first|refine zB ?_|refine zE ?_|refine zG ?_|refine zK ?_|refine zP ?_|refine zL rfl ?_)|(first|((first|refine zA rfl ?_);first|refine JOq (yH rfl rfl (by omega)) rfl ?_|refine wI rfl rfl hil rfl ?_|refine JOq (xF (yI x) rfl (fun u z hu => xG (b := q1) (o := o1) (n := next.length) (cap := kn) (j := i) hil (by rw [yY edgeC_len _ _ _ _ (by have := (List.getElem?_eq_some_iff.1 hu).1;exact this) hx];exact hu)) rfl) rfl ?_|refine JOq (tD (r := hd ++ (r ++ c)) (List.append_assoc _ _ _) rfl rfl (by (try simp only [List.length_append]);omega)) rfl ?_|refine yZ (b := 1) rfl rfl (by omega) rfl ?_|refine zD rfl rfl ?_|refine zC rfl rfl ?_|refine yF rfl rfl ?_|refine zF rfl rfl ?_|refine zH rfl rfl ?_|refine zR rfl (ce) rfl ?_)))
          exact ⟨⟨(i + 1,r ++ c),by simp only;omega,mapO_take hx hr hc⟩,by simp only;omega,by (repeat (first|exact zM _|refine zI rfl ?_)),rfl,Ent.sel⟩
        · obtain rfl : i = next.length := by omega
          rw [List.take_length] at hr
          obtain rfl := Option.some.inj (hr.symm.trans htl)
          repeat (first|(first|refine zB ?_|refine zE ?_|refine zG ?_|refine zJ rfl ?_|refine xA ?_|refine zV ?_)|(first|((first|refine zA rfl ?_);first|refine JOq (yS rfl rfl (by omega)) rfl ?_|refine zD rfl rfl ?_|refine zC rfl rfl ?_|refine yF rfl rfl ?_|refine zF rfl rfl ?_|refine zH rfl rfl ?_)))
          exact zY rfl rfl .nil
    · have ck := dnum_c 2 (by decide)
      have hlk := uD (n := 2) (by omega)
      rcases hk with ⟨rfl,pb,hpb,hhd⟩ | ⟨rfl,hhd⟩
      · have c1 := dnum_c 1 (by decide)
        have ce := dlayEdge_c hpb
        have hlb := vL hpb
        repeat (first|(first|refine zB ?_|refine zE ?_|refine zG ?_|refine zP ?_|refine zL rfl ?_|refine zJ rfl ?_)|(first|((first|refine zA rfl ?_|refine zZ rfl rfl ?_);first|refine JOq (yT rfl rfl (by omega)) rfl ?_|refine JOq (yL rfl rfl (by omega)) rfl ?_|refine JOq (vS rfl rfl (by omega)) rfl ?_|refine JOq (uQ rfl rfl (by (try simp only [List.length_append]);omega)) rfl ?_|refine zD rfl rfl ?_|refine zC rfl rfl ?_|refine zF rfl rfl ?_|refine zH rfl rfl ?_|refine yJ rfl rfl rfl ?_|refine zR rfl (ck) rfl ?_|refine zR rfl (cp) rfl ?_)))
        repeat (first|refine vO ?_|refine tA rfl ?_|refine JG_n rfl rfl rfl (by kernel_rfl) (by kernel_rfl) rfl Ent.sel (by first|exact tD hhd.symm rfl rfl (by (try simp only [List.length_append]);omega)|exact uQ rfl rfl (by (try simp only [List.length_append]);omega)|exact xF [.int .i64 e1,.int .i64 e2] rfl (fun i u hu => wB (b := n1) (off := 3 + i) (pay_get hu)) rfl|exact xE rfl|exact vT rfl|exact xP rfl) ?_|refine JG_jo rfl rfl rfl uX (zR rfl (c1) rfl ⟨Ent.sel,?_⟩)|refine JG_jo rfl rfl rfl uX (zR rfl (ce) rfl ⟨Ent.sel,?_⟩))
        repeat (first|(first|refine zB ?_|refine zE ?_|refine zG ?_|refine zK ?_|refine zP ?_|refine zJ rfl ?_)|(first|((first|refine zA rfl ?_|refine zZ rfl rfl ?_);first|refine JOq (yL rfl rfl (by omega)) rfl ?_|refine zD rfl rfl ?_|refine zC rfl rfl ?_|refine zF rfl rfl ?_|refine zH rfl rfl ?_|refine yJ rfl rfl rfl ?_)))
        refine xU (β := { z : Nat × List UInt8 // z.1 ≤ next.length ∧ uY xV (next.take z.1) = some z.2 }) (fun z => [(1,ptr n1),(3,str (hd ++ z.1.2)),(4,.int .i64 (z.1.1 : Int))]) (fun _ => []) (fun _ => [pt n1 (.cells [.int .i64 2,.int .i64 prio,.bool true,.int .i64 e1,.int .i64 e2,slc (pn,kn) next.length].toArray 58 (0,0)),Vw 2 (slc (pn,kn) next.length) next.length (next.flatMap yI)]) (fun z => next.length - z.1.1) ⟨(0,[]),by simp,rfl⟩ ?_ rfl Ent.sel ?_
        · dsimp only
          rw [List.append_nil]
          (repeat (first|exact zM _|refine zI rfl ?_))
        rintro ⟨⟨i,r⟩,hi,hr⟩
        dsimp only at hi hr ⊢
        by_cases hil : i < next.length
        · obtain ⟨x,hx⟩ : ∃ x,next[i]? = some x := ⟨_,List.getElem?_eq_getElem hil⟩
          obtain ⟨c,hc⟩ := mapO_mem htl x (List.mem_of_getElem? hx)
          have ce := dlayEdge_c hc
          have hrl := mapO_take_len (b := 20) hr hb (by decide) (fun x c => vL)
          have hcl := vL hc
          refine wE (φ := ∃ b o,pn = some ⟨b,o,none⟩) (fun F w hs => (Ent.sel (K := [Vw 2 (slc (pn,kn) next.length) next.length (next.flatMap yI)]) F w hs).tail.out (fun k hk => xW (by omega) k hk)) (fun hp => ?_)
          obtain ⟨q1,o1,rfl⟩ := hp
          repeat (first|(first|refine zB ?_|refine zE ?_|refine zG ?_|refine zK ?_|refine zP ?_|refine zL rfl ?_)|(first|((first|refine zA rfl ?_);first|refine JOq (yH rfl rfl (by omega)) rfl ?_|refine wI rfl rfl hil rfl ?_|refine JOq (xF (yI x) rfl (fun u z hu => xG (b := q1) (o := o1) (n := next.length) (cap := kn) (j := i) hil (by rw [yY edgeC_len _ _ _ _ (by have := (List.getElem?_eq_some_iff.1 hu).1;exact this) hx];exact hu)) rfl) rfl ?_|refine JOq (tD (r := hd ++ (r ++ c)) (List.append_assoc _ _ _) rfl rfl (by (try simp only [List.length_append]);omega)) rfl ?_|refine yZ (b := 1) rfl rfl (by omega) rfl ?_|refine zD rfl rfl ?_|refine zC rfl rfl ?_|refine yF rfl rfl ?_|refine zF rfl rfl ?_|refine zH rfl rfl ?_|refine zR rfl (ce) rfl ?_)))
          exact ⟨⟨(i + 1,r ++ c),by simp only;omega,mapO_take hx hr hc⟩,by simp only;omega,by (repeat (first|exact zM _|refine zI rfl ?_)),rfl,Ent.sel⟩
        · obtain rfl : i = next.length := by omega
          rw [List.take_length] at hr
          obtain rfl := Option.some.inj (hr.symm.trans htl)
          repeat (first|(first|refine zB ?_|refine zE ?_|refine zG ?_|refine zJ rfl ?_|refine xA ?_|refine zV ?_)|(first|((first|refine zA rfl ?_);first|refine JOq (yS rfl rfl (by omega)) rfl ?_|refine zD rfl rfl ?_|refine zC rfl rfl ?_|refine yF rfl rfl ?_|refine zF rfl rfl ?_|refine zH rfl rfl ?_)))
          exact zY rfl rfl .nil
      · have c0 := dnum_c 0 (by decide)
        repeat (first|(first|refine zB ?_|refine zE ?_|refine zG ?_|refine zK ?_|refine zP ?_|refine zL rfl ?_|refine zJ rfl ?_)|(first|((first|refine zA rfl ?_|refine zZ rfl rfl ?_);first|refine JOq (yT rfl rfl (by omega)) rfl ?_|refine JOq (yL rfl rfl (by omega)) rfl ?_|refine JOq (vS rfl rfl (by omega)) rfl ?_|refine JOq (tD hhd.symm rfl rfl (by (try simp only [List.length_append]);omega)) rfl ?_|refine JOq (uQ rfl rfl (by (try simp only [List.length_append]);omega)) rfl ?_|refine zD rfl rfl ?_|refine zC rfl rfl ?_|refine zF rfl rfl ?_|refine zH rfl rfl ?_|refine yJ rfl rfl rfl ?_|refine zR rfl (ck) rfl ?_|refine zR rfl (cp) rfl ?_|refine zR rfl (c0) rfl ?_)))
        refine xU (β := { z : Nat × List UInt8 // z.1 ≤ next.length ∧ uY xV (next.take z.1) = some z.2 }) (fun z => [(1,ptr n1),(3,str (hd ++ z.1.2)),(4,.int .i64 (z.1.1 : Int))]) (fun _ => []) (fun _ => [pt n1 (.cells [.int .i64 2,.int .i64 prio,.bool false,.int .i64 e1,.int .i64 e2,slc (pn,kn) next.length].toArray 58 (0,0)),Vw 2 (slc (pn,kn) next.length) next.length (next.flatMap yI)]) (fun z => next.length - z.1.1) ⟨(0,[]),by simp,rfl⟩ ?_ rfl Ent.sel ?_
        · dsimp only
          rw [List.append_nil]
          (repeat (first|exact zM _|refine zI rfl ?_))
        rintro ⟨⟨i,r⟩,hi,hr⟩
        dsimp only at hi hr ⊢
        by_cases hil : i < next.length
        · obtain ⟨x,hx⟩ : ∃ x,next[i]? = some x := ⟨_,List.getElem?_eq_getElem hil⟩
          obtain ⟨c,hc⟩ := mapO_mem htl x (List.mem_of_getElem? hx)
          have ce := dlayEdge_c hc
          have hrl := mapO_take_len (b := 20) hr hb (by decide) (fun x c => vL)
          have hcl := vL hc
          refine wE (φ := ∃ b o,pn = some ⟨b,o,none⟩) (fun F w hs => (Ent.sel (K := [Vw 2 (slc (pn,kn) next.length) next.length (next.flatMap yI)]) F w hs).tail.out (fun k hk => xW (by omega) k hk)) (fun hp => ?_)
          obtain ⟨q1,o1,rfl⟩ := hp
          repeat (first|(first|refine zB ?_|refine zE ?_|refine zG ?_|refine zK ?_|refine zP ?_|refine zL rfl ?_)|(first|((first|refine zA rfl ?_);first|refine JOq (yH rfl rfl (by omega)) rfl ?_|refine wI rfl rfl hil rfl ?_|refine JOq (xF (yI x) rfl (fun u z hu => xG (b := q1) (o := o1) (n := next.length) (cap := kn) (j := i) hil (by rw [yY edgeC_len _ _ _ _ (by have := (List.getElem?_eq_some_iff.1 hu).1;exact this) hx];exact hu)) rfl) rfl ?_|refine JOq (tD (r := hd ++ (r ++ c)) (List.append_assoc _ _ _) rfl rfl (by (try simp only [List.length_append]);omega)) rfl ?_|refine yZ (b := 1) rfl rfl (by omega) rfl ?_|refine zD rfl rfl ?_|refine zC rfl rfl ?_|refine yF rfl rfl ?_|refine zF rfl rfl ?_|refine zH rfl rfl ?_|refine zR rfl (ce) rfl ?_)))
          exact ⟨⟨(i + 1,r ++ c),by simp only;omega,mapO_take hx hr hc⟩,by simp only;omega,by (repeat (first|exact zM _|refine zI rfl ?_)),rfl,Ent.sel⟩
        · obtain rfl : i = next.length := by omega
          rw [List.take_length] at hr
          obtain rfl := Option.some.inj (hr.symm.trans htl)
          repeat (first|(first|refine zB ?_|refine zE ?_|refine zG ?_|refine zJ rfl ?_|refine xA ?_|refine zV ?_)|(first|((first|refine zA rfl ?_);first|refine JOq (yS rfl rfl (by omega)) rfl ?_|refine zD rfl rfl ?_|refine zC rfl rfl ?_|refine yF rfl rfl ?_|refine zF rfl rfl ?_|refine zH rfl rfl ?_)))
          exact zY rfl rfl .nil
  · have cp := dnum_c prio (by omega)
    have hlp := uD (n := prio) (by omega)
    have cl := dnum_c (next.length : Int) (by omega)
    have hll := uD (n := (next.length : Int)) (by omega)
    rcases k34 with rfl | rfl
    · have ck := dnum_c 3 (by decide)
      have hlk := uD (n := 3) (by omega)
      repeat (first|(first|refine zB ?_|refine zE ?_|refine zG ?_|refine zK ?_|refine zP ?_|refine zL rfl ?_|refine zJ rfl ?_)|(first|((first|refine zA rfl ?_|refine zZ rfl rfl ?_);first|refine JOq (yT rfl rfl (by omega)) rfl ?_|refine JOq (yL rfl rfl (by omega)) rfl ?_|refine JOq (vS rfl rfl (by omega)) rfl ?_|refine JOq (tD hhd.symm rfl rfl (by (try simp only [List.length_append]);omega)) rfl ?_|refine JOq (uQ rfl rfl (by (try simp only [List.length_append]);omega)) rfl ?_|refine zD rfl rfl ?_|refine zC rfl rfl ?_|refine yF rfl rfl ?_|refine zF rfl rfl ?_|refine zH rfl rfl ?_|refine yA rfl rfl rfl ?_|refine yJ rfl rfl rfl ?_|refine zR rfl (ck) rfl ?_|refine zR rfl (cp) rfl ?_|refine zR rfl (cl) rfl ?_)|refine yU rfl rfl rfl ?_))
      refine xU (β := { z : Nat × List UInt8 // z.1 ≤ next.length ∧ uY xV (next.take z.1) = some z.2 }) (fun z => [(1,ptr n1),(3,str (hd ++ z.1.2)),(4,.int .i64 (z.1.1 : Int))]) (fun _ => []) (fun _ => [pt n1 (.cells [.int .i64 3,.int .i64 prio,.bool ch,.int .i64 e1,.int .i64 e2,slc (pn,kn) next.length].toArray 58 (0,0)),Vw 2 (slc (pn,kn) next.length) next.length (next.flatMap yI)]) (fun z => next.length - z.1.1) ⟨(0,[]),by simp,rfl⟩ ?_ rfl Ent.sel ?_
      · dsimp only
        rw [List.append_nil]
        (repeat (first|exact zM _|refine zI rfl ?_))
      rintro ⟨⟨i,r⟩,hi,hr⟩
      dsimp only at hi hr ⊢
      by_cases hil : i < next.length
      · obtain ⟨x,hx⟩ : ∃ x,next[i]? = some x := ⟨_,List.getElem?_eq_getElem hil⟩
        obtain ⟨c,hc⟩ := mapO_mem htl x (List.mem_of_getElem? hx)
        have ce := dlayEdge_c hc
        have hrl := mapO_take_len (b := 20) hr hb (by decide) (fun x c => vL)
        have hcl := vL hc
        refine wE (φ := ∃ b o,pn = some ⟨b,o,none⟩) (fun F w hs => (Ent.sel (K := [Vw 2 (slc (pn,kn) next.length) next.length (next.flatMap yI)]) F w hs).tail.out (fun k hk => xW (by omega) k hk)) (fun hp => ?_)
        obtain ⟨q1,o1,rfl⟩ := hp
        repeat (first|(first|refine zB ?_|refine zE ?_|refine zG ?_|refine zK ?_|refine zP ?_|refine zL rfl ?_)|(first|((first|refine zA rfl ?_);first|refine JOq (yH rfl rfl (by omega)) rfl ?_|refine wI rfl rfl hil rfl ?_|refine JOq (xF (yI x) rfl (fun u z hu => xG (b := q1) (o := o1) (n := next.length) (cap := kn) (j := i) hil (by rw [yY edgeC_len _ _ _ _ (by have := (List.getElem?_eq_some_iff.1 hu).1;exact this) hx];exact hu)) rfl) rfl ?_|refine JOq (tD (r := hd ++ (r ++ c)) (List.append_assoc _ _ _) rfl rfl (by (try simp only [List.length_append]);omega)) rfl ?_|refine yZ (b := 1) rfl rfl (by omega) rfl ?_|refine zD rfl rfl ?_|refine zC rfl rfl ?_|refine yF rfl rfl ?_|refine zF rfl rfl ?_|refine zH rfl rfl ?_|refine zR rfl (ce) rfl ?_)))
        exact ⟨⟨(i + 1,r ++ c),by simp only;omega,mapO_take hx hr hc⟩,by simp only;omega,by (repeat (first|exact zM _|refine zI rfl ?_)),rfl,Ent.sel⟩
      · obtain rfl : i = next.length := by omega
        rw [List.take_length] at hr
        obtain rfl := Option.some.inj (hr.symm.trans htl)
        repeat (first|(first|refine zB ?_|refine zE ?_|refine zG ?_|refine zJ rfl ?_|refine xA ?_|refine zV ?_)|(first|((first|refine zA rfl ?_);first|refine JOq (yS rfl rfl (by omega)) rfl ?_|refine zD rfl rfl ?_|refine zC rfl rfl ?_|refine yF rfl rfl ?_|refine zF rfl rfl ?_|refine zH rfl rfl ?_)))
        exact zY rfl rfl .nil
    · have ck := dnum_c 4 (by decide)
      have hlk := uD (n := 4) (by omega)
      repeat (first|(first|refine zB ?_|refine zE ?_|refine zG ?_|refine zK ?_|refine zP ?_|refine zL rfl ?_|refine zJ rfl ?_)|(first|((first|refine zA rfl ?_|refine zZ rfl rfl ?_);first|refine JOq (yT rfl rfl (by omega)) rfl ?_|refine JOq (yL rfl rfl (by omega)) rfl ?_|refine JOq (vS rfl rfl (by omega)) rfl ?_|refine JOq (tD hhd.symm rfl rfl (by (try simp only [List.length_append]);omega)) rfl ?_|refine JOq (uQ rfl rfl (by (try simp only [List.length_append]);omega)) rfl ?_|refine zD rfl rfl ?_|refine zC rfl rfl ?_|refine yF rfl rfl ?_|refine zF rfl rfl ?_|refine zH rfl rfl ?_|refine yJ rfl rfl rfl ?_|refine zR rfl (ck) rfl ?_|refine zR rfl (cp) rfl ?_|refine zR rfl (cl) rfl ?_)))
      refine xU (β := { z : Nat × List UInt8 // z.1 ≤ next.length ∧ uY xV (next.take z.1) = some z.2 }) (fun z => [(1,ptr n1),(3,str (hd ++ z.1.2)),(4,.int .i64 (z.1.1 : Int))]) (fun _ => []) (fun _ => [pt n1 (.cells [.int .i64 4,.int .i64 prio,.bool ch,.int .i64 e1,.int .i64 e2,slc (pn,kn) next.length].toArray 58 (0,0)),Vw 2 (slc (pn,kn) next.length) next.length (next.flatMap yI)]) (fun z => next.length - z.1.1) ⟨(0,[]),by simp,rfl⟩ ?_ rfl Ent.sel ?_
      · dsimp only
        rw [List.append_nil]
        (repeat (first|exact zM _|refine zI rfl ?_))
      rintro ⟨⟨i,r⟩,hi,hr⟩
      dsimp only at hi hr ⊢
      by_cases hil : i < next.length
      · obtain ⟨x,hx⟩ : ∃ x,next[i]? = some x := ⟨_,List.getElem?_eq_getElem hil⟩
        obtain ⟨c,hc⟩ := mapO_mem htl x (List.mem_of_getElem? hx)
        have ce := dlayEdge_c hc
        have hrl := mapO_take_len (b := 20) hr hb (by decide) (fun x c => vL)
        have hcl := vL hc
        refine wE (φ := ∃ b o,pn = some ⟨b,o,none⟩) (fun F w hs => (Ent.sel (K := [Vw 2 (slc (pn,kn) next.length) next.length (next.flatMap yI)]) F w hs).tail.out (fun k hk => xW (by omega) k hk)) (fun hp => ?_)
        obtain ⟨q1,o1,rfl⟩ := hp
        repeat (first|(first|refine zB ?_|refine zE ?_|refine zG ?_|refine zK ?_|refine zP ?_|refine zL rfl ?_)|(first|((first|refine zA rfl ?_);first|refine JOq (yH rfl rfl (by omega)) rfl ?_|refine wI rfl rfl hil rfl ?_|refine JOq (xF (yI x) rfl (fun u z hu => xG (b := q1) (o := o1) (n := next.length) (cap := kn) (j := i) hil (by rw [yY edgeC_len _ _ _ _ (by have := (List.getElem?_eq_some_iff.1 hu).1;exact this) hx];exact hu)) rfl) rfl ?_|refine JOq (tD (r := hd ++ (r ++ c)) (List.append_assoc _ _ _) rfl rfl (by (try simp only [List.length_append]);omega)) rfl ?_|refine yZ (b := 1) rfl rfl (by omega) rfl ?_|refine zD rfl rfl ?_|refine zC rfl rfl ?_|refine yF rfl rfl ?_|refine zF rfl rfl ?_|refine zH rfl rfl ?_|refine zR rfl (ce) rfl ?_)))
        exact ⟨⟨(i + 1,r ++ c),by simp only;omega,mapO_take hx hr hc⟩,by simp only;omega,by (repeat (first|exact zM _|refine zI rfl ?_)),rfl,Ent.sel⟩
      · obtain rfl : i = next.length := by omega
        rw [List.take_length] at hr
        obtain rfl := Option.some.inj (hr.symm.trans htl)
        repeat (first|(first|refine zB ?_|refine zE ?_|refine zG ?_|refine zJ rfl ?_|refine xA ?_|refine zV ?_)|(first|((first|refine zA rfl ?_);first|refine JOq (yS rfl rfl (by omega)) rfl ?_|refine zD rfl rfl ?_|refine zC rfl rfl ?_|refine yF rfl rfl ?_|refine zF rfl rfl ?_|refine zH rfl rfl ?_)))
        exact zY rfl rfl .nil
end Go.Proofs.YtickblndgihoeaaGreatDoor

/- Layer 11: the document's layTemplate,layStart. -/
namespace Go.Proofs.YtickblndgihoeaaGreatDoor
open Go Go.Sp
theorem prm_get {p : Prm} {u : Nat} {z : Value} (hu : (yI p.ty)[u]? = some z) : (tI p)[1 + u]? = some z ∧ 1 + u < 3 := by
  rcases u with _ | _ | u
  · exact ⟨hu,by decide⟩
  · exact ⟨hu,by decide⟩
  · simp at hu
theorem enc_1 : vJ 1 = [1] := by unfold vJ;rw [show (1 : Int).toNat = 1 from rfl,encU_lt (by decide)];rfl
theorem enc_0 : vJ 0 = [0] := by unfold vJ;rw [show (0 : Int).toNat = 0 from rfl,encU_lt (by decide)];rfl
theorem prm_bytes {p : Prm} {c : List UInt8} (h : prmO p = some c) : (p.ch = true ∧ ∃ eb,xV p.ty = some eb ∧ c = vJ 1 ++ eb) ∨ (p.ch = false ∧ c = vJ 0) := by
  obtain ⟨ch,e⟩ := p
  cases ch with
  | true =>
    rw [prmO_t] at h
    obtain ⟨a,eb,h1,h2,rfl⟩ := xO.1 h
    cases h1
    exact .inl ⟨rfl,eb,h2,by rw [enc_1];rfl⟩
  | false =>
    rw [prmO_f] at h
    obtain ⟨a,eb,h1,h2,rfl⟩ := xO.1 h
    cases h1
    obtain ⟨_,rfl⟩ := mustO_iff.1 h2
    exact .inr ⟨rfl,by rw [enc_0];rfl⟩
theorem ar_bytes {p : Ar} {c : List UInt8} (h : arO p = some c) : (p.ch = true ∧ (0 ≤ p.en ∧ p.en ≤ 31) ∧ c = vJ 1 ++ vJ p.en) ∨ (p.ch = false ∧ c = vJ 0 ++ wY (foldZ p.word)) := by
  obtain ⟨ch,w,e⟩ := p
  cases ch with
  | true =>
    rw [arO_t] at h
    obtain ⟨a,_,h1,h2,rfl⟩ := xO.1 h
    obtain ⟨_,eb,h3,h4,rfl⟩ := xO.1 h2
    cases h1
    obtain ⟨_,rfl⟩ := mustO_iff.1 h3
    have g := numO_eq h4
    exact .inl ⟨rfl,⟨g.1,g.2.1⟩,by rw [enc_1,g.2.2];rfl⟩
  | false =>
    rw [arO_f] at h
    obtain ⟨a,_,h1,h2,rfl⟩ := xO.1 h
    obtain ⟨_,eb,h3,h4,rfl⟩ := xO.1 h2
    cases h1
    obtain ⟨_,rfl⟩ := mustO_iff.1 h3
    cases h4
    exact .inr ⟨rfl,by rw [enc_0];rfl⟩
theorem ins_bytes {y : YI} {c : List UInt8} (h : insO y = some c) : ∃ n : Nat,n ≤ 24 ∧ y.1.op = (n : Int) ∧ fitsP (zQ n).1 y.1 ∧ c = tJ (zQ n) y.1 := by
  rcases chk_cases y.1 with h0 | ⟨n,h24,hn,hf,h0⟩
  · rw [insO_bad h0] at h;cases h
  · rw [insO_ok hn h0] at h
    cases h
    exact ⟨n,h24,hn,hf,rfl⟩
theorem mapO_lenB {α : Type} {o : α → OB} {b : Nat} : ∀ {l : List α} {r : List UInt8},uY o l = some r → (∀ x ∈ l,∀ c,o x = some c → c.length ≤ b) → r.length ≤ l.length * b
  | [],r,h,_ => by cases h;simp
  | x :: l,r,h,hc => by
    obtain ⟨a,c,h1,h2,rfl⟩ := xO.1 (show xM (o x) (uY o l) = some r from h)
    have k1 := hc x (List.mem_cons_self ..) a h1
    have k2 := mapO_lenB h2 fun y hy => hc y (List.mem_cons_of_mem _ hy)
    simp only [List.length_append,List.length_cons,Nat.succ_mul]
    omega
theorem mapO_code {code : List YI} {i : Nat} {r : List UInt8} (h : uY insO (code.take i) = some r) (hl : code.length ≤ 100000) (ha : ∀ y ∈ code,-9223372036854775808 ≤ y.1.a ∧ y.1.a ≤ 9223372036854775807) : r.length ≤ 100000000000 := by
  have h1 := mapO_lenB (b := 140) h fun y hy c hc => insO_len' (ha y (List.mem_of_mem_take hy)) hc
  have h3 : (code.take i).length * 140 ≤ 100000 * 140 := Nat.mul_le_mul (by rw [List.length_take];omega) (Nat.le_refl _)
  omega
theorem mapO_ar {args : List Ar} {i : Nat} {r : List UInt8} (h : uY arO (args.take i) = some r) (hl : args.length ≤ 100000) (ha : ∀ y ∈ args,arOk y) : r.length ≤ 100000000000 := by
  have h1 := mapO_lenB (b := 30) h fun y hy c hc => arO_len (ha y (List.mem_of_mem_take hy)) hc
  have h3 : (args.take i).length * 30 ≤ 100000 * 30 := Nat.mul_le_mul (by rw [List.length_take];omega) (Nat.le_refl _)
  omega
theorem app3 (a b c d : List UInt8) : ((a ++ b) ++ c) ++ d = a ++ (b ++ (c ++ d)) := by simp
attribute [local irreducible] callFunc Go.method J JL JO JR JR1 JRl Ct JG JM JM1 JW JW1 JQ JQ0 JS CtD xB ints by8 chkA tJ yB uK wZ temO wJ staO sec1O sec2O sec3O wK xV oneO wH prmO insO arO mayB vJ
set_option maxHeartbeats 4000000 in
theorem dlayTemplate_c {t : Tem} {b : List UInt8} (h : temO t = some b) (hb1 : t.params.length ≤ 100000) (hb2 : t.code.length ≤ 100000) (hok : temOk t) : Ct Tryz.prog 26 #[.agg (wA t).toArray] [wS t] (wF (str b) []) := by
  obtain ⟨u1,u2,h1,h2,rfl⟩ : ∃ u1 u2,wH 0 8 prmO t.params = some u1 ∧ wH 1 128 insO t.code = some u2 ∧ b = u1 ++ u2 := xO.1 (by unfold temO at h;exact h)
  obtain ⟨_,_,a1,pr,g1,hpr,rfl⟩ := uW h1
  obtain ⟨_,_,a2,cr,g2,hcr,rfl⟩ := uW h2
  obtain ⟨_,_,rfl⟩ := numO_eq g1
  obtain ⟨_,_,rfl⟩ := numO_eq g2
  have c1 := dnum_c (t.params.length : Int) (by omega)
  have c2 := dnum_c (t.code.length : Int) (by omega)
  have k1 := uD (n := (t.params.length : Int)) (by omega)
  have k2 := uD (n := (t.code.length : Int)) (by omega)
  have kp : pr.length ≤ 10000000000 := mapO_take_len (i := t.params.length) (b := 30) (l := t.params) (by rw [List.take_length];exact hpr) hb1 (by decide) fun x c => prmO_len
  obtain ⟨params,⟨pp,kpp⟩,code,⟨pc,kc⟩,wt,⟨pw,kw⟩⟩ := t
  dsimp only at *
  generalize vJ (params.length : Int) = e1 at *
  generalize hde : (e1 ++ pr) ++ vJ (code.length : Int) = hd2
  have hfin : e1 ++ pr ++ (vJ (code.length : Int) ++ cr) = hd2 ++ cr := by rw [← hde];simp
  rw [hfin]
  have k3 : hd2.length ≤ 20000000000 := by rw [← hde];simp only [List.length_append];omega
  refine Ct.heap (ent_split (A := wS _) (M := [Vw 3 (slc (pp,kpp) params.length) params.length (params.flatMap tI),Vw 6 (slc (pc,kc) code.length) code.length (code.flatMap vC),yB uT code]) fun k hk => star_pers (temR_K _ k hk)) ?_
  rw [List.append_nil]
  refine yE (vs := [.agg [slc (pp,kpp) params.length,slc (pc,kc) code.length,slc (pw,kw) wt.length].toArray]) Tryz.func26 rfl Tryz.ntmps26 (by simp) ?_
  repeat (first|(first|refine zB ?_|refine zE ?_|refine zG ?_)|(first|((first|refine zA rfl ?_);first|refine zC rfl rfl ?_|refine yF rfl rfl ?_|refine zF rfl rfl ?_|refine zH rfl rfl ?_|refine yN rfl rfl (fun r => ?_))))
  revert r
  intro n1
  repeat (first|(first|refine zB ?_|refine zE ?_|refine zG ?_)|(first|((first|refine zA rfl ?_);first|refine zC rfl rfl ?_|refine zR rfl (c1) rfl ?_)))
  refine uI (α := Unit) (fun _ => [(1,ptr n1),(3,str (e1 ++ pr))]) (fun _ => [pt n1 (.cells [slc (pp,kpp) params.length,slc (pc,kc) code.length,slc (pw,kw) wt.length].toArray 50 (0,0)),Vw 3 (slc (pp,kpp) params.length) params.length (params.flatMap tI),Vw 6 (slc (pc,kc) code.length) code.length (code.flatMap vC),yB uT code]) ?_ ?_
  · repeat (first|(first|refine zK ?_)|(first|((first|refine zA rfl ?_);first|refine zD rfl rfl ?_)))
    refine xU (β := { z : Nat × List UInt8 // z.1 ≤ params.length ∧ uY prmO (params.take z.1) = some z.2 }) (fun z => [(1,ptr n1),(3,str (e1 ++ z.1.2)),(4,.int .i64 (z.1.1 : Int))]) (fun _ => []) (fun _ => [pt n1 (.cells [slc (pp,kpp) params.length,slc (pc,kc) code.length,slc (pw,kw) wt.length].toArray 50 (0,0)),Vw 3 (slc (pp,kpp) params.length) params.length (params.flatMap tI),Vw 6 (slc (pc,kc) code.length) code.length (code.flatMap vC),yB uT code]) (fun z => params.length - z.1.1) ⟨(0,[]),by simp,rfl⟩ ?_ rfl Ent.sel ?_
    · dsimp only
      rw [List.append_nil]
      (repeat (first|exact zM _|refine zI rfl ?_))
    rintro ⟨⟨i,r⟩,hi,hr⟩
    dsimp only at hi hr ⊢
    by_cases hil : i < params.length
    · obtain ⟨x,hx⟩ : ∃ x,params[i]? = some x := ⟨_,List.getElem?_eq_getElem hil⟩
      have hxm := List.mem_of_getElem? hx
      obtain ⟨c,hc⟩ := mapO_mem hpr x hxm
      have hrl := mapO_take_len (b := 30) hr hb1 (by decide) (fun x c => prmO_len)
      have hcl := prmO_len hc
      refine wE (φ := ∃ b o,pp = some ⟨b,o,none⟩) (fun F w hs => (Ent.sel (K := [Vw 3 (slc (pp,kpp) params.length) params.length (params.flatMap tI)]) F w hs).tail.out (fun k hk => xW (by omega) k hk)) (fun hp => ?_)
      obtain ⟨q1,o1,rfl⟩ := hp
      have hl1 := uD (n := 1) (by omega)
      have hl0 := uD (n := 0) (by omega)
      obtain ⟨ch,ty⟩ := x
      rcases prm_bytes hc with ⟨hch,eb,heb,rfl⟩ | ⟨hch,rfl⟩
      · dsimp only at hch heb
        subst hch
        have d1 := dnum_c 1 (by decide)
        have d2 := dlayType_c heb
        have hle := vL heb
        repeat (first|(first|refine zB ?_|refine zE ?_|refine zG ?_|refine zK ?_|refine zP ?_|refine zL rfl ?_)|(first|((first|refine zA rfl ?_);first|refine JOq (yH rfl rfl (by omega)) rfl ?_|refine wI rfl rfl hil rfl ?_|refine wU rfl (lds_eq (xG (u := .bool true) (b := q1) (o := o1) (n := params.length) (cap := kpp) (j := i) (i := 0) hil (by rw [yY prmC_len _ _ _ _ (by decide) hx];rfl)) rfl) rfl ?_|refine zD rfl rfl ?_|refine yF rfl rfl ?_|refine zF rfl rfl ?_|refine JO_field rfl rfl ?_|refine zH rfl rfl ?_)))
        repeat (first|refine vO ?_|refine tA rfl ?_|refine JG_n rfl rfl rfl (by kernel_rfl) (by kernel_rfl) rfl Ent.sel (by first|exact JQ_index rfl rfl hil|exact tD (app3 e1 r (vJ 1) eb) rfl rfl (by (try simp only [List.length_append]);omega)|exact uQ rfl rfl (by (try simp only [List.length_append]);omega)|exact xF (yI ty) rfl (fun u z hu => lds_eq (xG (b := q1) (o := o1) (n := params.length) (cap := kpp) (j := i) (i := 1 + u) hil (by rw [yY prmC_len _ _ _ _ (prm_get (p := ⟨true,ty⟩) hu).2 hx];exact (prm_get (p := ⟨true,ty⟩) hu).1)) (by omega)) rfl|exact xE rfl|exact vT rfl|exact xL rfl|exact xP rfl|exact JQ_field rfl) ?_|refine JG_jo rfl rfl rfl uX (zR rfl (d1) rfl ⟨Ent.sel,?_⟩)|refine JG_jo rfl rfl rfl uX (zR rfl (d2) rfl ⟨Ent.sel,?_⟩))
        repeat (first|(first|refine zB ?_|refine zE ?_)|(first|((first|refine zA rfl ?_);first|refine yZ (b := 1) rfl rfl (by omega) rfl ?_|refine zD rfl rfl ?_|refine zC rfl rfl ?_)))
        exact ⟨⟨(i + 1,r ++ (vJ 1 ++ eb)),by simp only;omega,mapO_take hx hr hc⟩,by simp only;omega,by (repeat (first|exact zM _|refine zI rfl ?_)),rfl,Ent.sel⟩
      · dsimp only at hch
        subst hch
        have d0 := dnum_c 0 (by decide)
        repeat (first|(first|refine zB ?_|refine zE ?_|refine zG ?_|refine zK ?_|refine zP ?_|refine zL rfl ?_|refine zJ rfl ?_)|(first|((first|refine zA rfl ?_);first|refine JOq (yH rfl rfl (by omega)) rfl ?_|refine wI rfl rfl hil rfl ?_|refine wU rfl (lds_eq (xG (u := .bool false) (b := q1) (o := o1) (n := params.length) (cap := kpp) (j := i) (i := 0) hil (by rw [yY prmC_len _ _ _ _ (by decide) hx];rfl)) rfl) rfl ?_|refine JOq (tD (List.append_assoc e1 r (vJ 0)) rfl rfl (by (try simp only [List.length_append]);omega)) rfl ?_|refine yZ (b := 1) rfl rfl (by omega) rfl ?_|refine zD rfl rfl ?_|refine zC rfl rfl ?_|refine yF rfl rfl ?_|refine zF rfl rfl ?_|refine JO_field rfl rfl ?_|refine zH rfl rfl ?_|refine zR rfl (d0) rfl ?_)))
        exact ⟨⟨(i + 1,r ++ vJ 0),by simp only;omega,mapO_take hx hr hc⟩,by simp only;omega,by (repeat (first|exact zM _|refine zI rfl ?_)),rfl,Ent.sel⟩
    · obtain rfl : i = params.length := by omega
      rw [List.take_length] at hr
      obtain rfl := Option.some.inj (hr.symm.trans hpr)
      repeat (first|(first|refine zB ?_|refine zE ?_|refine zG ?_|refine zJ rfl ?_|refine xA ?_)|(first|((first|refine zA rfl ?_);first|refine JOq (yS rfl rfl (by omega)) rfl ?_|refine zD rfl rfl ?_|refine yF rfl rfl ?_|refine zF rfl rfl ?_|refine zH rfl rfl ?_)))
      exact ⟨(),by (repeat (first|exact zM _|refine zI rfl ?_)),rfl,Ent.sel⟩
  rintro ⟨⟩
  dsimp only [thn]
  repeat (first|(first|refine zB ?_|refine zE ?_|refine zG ?_|refine zK ?_)|(first|((first|refine zA rfl ?_);first|refine JOq (tD hde rfl rfl (by (try simp only [List.length_append]);omega)) rfl ?_|refine zD rfl rfl ?_|refine zC rfl rfl ?_|refine yF rfl rfl ?_|refine zF rfl rfl ?_|refine zH rfl rfl ?_|refine zR rfl (c2) rfl ?_)))
  refine xU (β := { z : Nat × List UInt8 // z.1 ≤ code.length ∧ uY insO (code.take z.1) = some z.2 }) (fun z => [(1,ptr n1),(3,str (hd2 ++ z.1.2)),(5,.int .i64 (z.1.1 : Int))]) (fun _ => []) (fun _ => [pt n1 (.cells [slc (pp,kpp) params.length,slc (pc,kc) code.length,slc (pw,kw) wt.length].toArray 50 (0,0)),Vw 3 (slc (pp,kpp) params.length) params.length (params.flatMap tI),Vw 6 (slc (pc,kc) code.length) code.length (code.flatMap vC),yB uT code]) (fun z => code.length - z.1.1) ⟨(0,[]),by simp,rfl⟩ ?_ rfl Ent.sel ?_
  · dsimp only
    rw [List.append_nil]
    (repeat (first|exact zM _|refine zI rfl ?_))
  rintro ⟨⟨i,r⟩,hi,hr⟩
  dsimp only at hi hr ⊢
  by_cases hil : i < code.length
  · obtain ⟨x,hx⟩ : ∃ x,code[i]? = some x := ⟨_,List.getElem?_eq_getElem hil⟩
    have hxm := List.mem_of_getElem? hx
    obtain ⟨c,hc⟩ := mapO_mem hcr x hxm
    have hrl : r.length ≤ 100000000000 := mapO_code hr hb2 hok
    obtain ⟨x,⟨py,ky⟩⟩ := x
    refine J_all uT code (x,py,ky) pers_insR hxm ?_
    refine wQ (uT (x,py,ky)) ?_
    refine wE (φ := x.l.length ≤ ky ∧ x.l.length ≤ 1000 ∧ -9223372036854775808 ≤ x.a ∧ x.a ≤ 9223372036854775807) (fun F w hs => hs.tail.out (fun k hk => hk.1)) (fun hrr => ?_)
    refine xQ (insR_row (x,py,ky)) ?_
    obtain ⟨n,h24,hn,hf,rfl⟩ := ins_bytes hc
    have hcl := (bytes_len h24 hn hf hrr.2.2).1
    have d := dbytes_ok x py ky hrr.1 hrr.2.1 hrr.2.2 hn h24 hf
    refine wE (φ := ∃ b o,pc = some ⟨b,o,none⟩) (fun F w hs => (Ent.sel (K := [Vw 6 (slc (pc,kc) code.length) code.length (code.flatMap vC)]) F w hs).tail.out (fun k hk => xW (by omega) k hk)) (fun hp => ?_)
    obtain ⟨q2,o2,rfl⟩ := hp
    repeat (first|(first|refine zB ?_|refine zE ?_|refine zG ?_|refine zK ?_|refine zP ?_|refine zL rfl ?_)|(first|((first|refine zA rfl ?_);first|refine JOq (yH rfl rfl (by omega)) rfl ?_|refine wI rfl rfl hil rfl ?_|refine JOq (xF (vC (x,py,ky)) rfl (fun u z hu => xG (b := q2) (o := o2) (n := code.length) (cap := kc) (j := i) hil (by rw [yY insC_len _ _ _ _ (by have := (List.getElem?_eq_some_iff.1 hu).1;exact this) hx];exact hu)) rfl) rfl ?_|refine JOq (tD (List.append_assoc hd2 r _) rfl rfl (by (try simp only [List.length_append]);dsimp only at hcl;omega)) rfl ?_|refine yZ (b := 1) rfl rfl (by omega) rfl ?_|refine zD rfl rfl ?_|refine zC rfl rfl ?_|refine yF rfl rfl ?_|refine zF rfl rfl ?_|refine zH rfl rfl ?_|refine zT rfl rfl rfl ?_|refine zR rfl (d) rfl ?_)))
    exact ⟨⟨(i + 1,r ++ tJ (zQ n) x),by simp only;omega,mapO_take hx hr hc⟩,by simp only;omega,by (repeat (first|exact zM _|refine zI rfl ?_)),rfl,Ent.sel⟩
  · obtain rfl : i = code.length := by omega
    rw [List.take_length] at hr
    obtain rfl := Option.some.inj (hr.symm.trans hcr)
    repeat (first|(first|refine zB ?_|refine zE ?_|refine zG ?_|refine zJ rfl ?_|refine xA ?_|refine zV ?_)|(first|((first|refine zA rfl ?_);first|refine JOq (yS rfl rfl (by omega)) rfl ?_|refine zD rfl rfl ?_|refine zC rfl rfl ?_|refine yF rfl rfl ?_|refine zF rfl rfl ?_|refine zH rfl rfl ?_)))
    exact zY rfl rfl .nil
set_option maxHeartbeats 4000000 in
theorem dlayStart_c {s : Sta} {b : List UInt8} (h : staO s = some b) (hw : ∀ p ∈ s.args,arOk p) (hb1 : s.args.length ≤ 100000) : Ct Tryz.prog 28 #[.agg (vE s).toArray] [StaR s] (wF (str b) []) := by
  obtain ⟨a0,u1,g0,h1,rfl⟩ : ∃ u1 u2,wK s.tm 15 = some u1 ∧ wH 0 8 arO s.args = some u2 ∧ b = u1 ++ u2 := xO.1 (by unfold staO at h;exact h)
  obtain ⟨_,_,a1,pr,g1,hpr,rfl⟩ := uW h1
  obtain ⟨t0,t1,rfl⟩ := numO_eq g0
  obtain ⟨_,_,rfl⟩ := numO_eq g1
  have c0 := dnum_c s.tm (by omega)
  have c1 := dnum_c (s.args.length : Int) (by omega)
  have k0 := uD (n := s.tm) (by omega)
  have k1 := uD (n := (s.args.length : Int)) (by omega)
  obtain ⟨tm,args,⟨pa,ka⟩⟩ := s
  dsimp only at *
  generalize hde : vJ tm ++ vJ (args.length : Int) = hd
  rw [← List.append_assoc,hde]
  have kh : hd.length ≤ 20 := by rw [← hde,List.length_append];omega
  refine yE (vs := [.agg [.int .i64 tm,slc (pa,ka) args.length].toArray]) Tryz.func28 rfl Tryz.ntmps28 (by simp) ?_
  repeat (first|(first|refine zB ?_|refine zE ?_|refine zG ?_)|(first|((first|refine zA rfl ?_);first|refine zC rfl rfl ?_|refine yN rfl rfl (fun r => ?_))))
  revert r
  intro n1
  repeat (first|refine vO ?_|refine tA rfl ?_|refine JG_n rfl rfl rfl (by kernel_rfl) (by kernel_rfl) rfl Ent.sel (by first|exact tD hde rfl rfl (by (try simp only [List.length_append]);omega)|exact tC rfl (wB rfl)|exact vT rfl|exact xP rfl|exact JQ_len rfl) ?_|refine JG_jo rfl rfl rfl uX (zR rfl (c0) rfl ⟨Ent.sel,?_⟩)|refine JG_jo rfl rfl rfl uX (zR rfl (c1) rfl ⟨Ent.sel,?_⟩))
  repeat (first|(first|refine zB ?_|refine zE ?_|refine zG ?_|refine zK ?_)|(first|((first|refine zA rfl ?_);first|refine zC rfl rfl ?_)))
  refine xU (β := { z : Nat × List UInt8 // z.1 ≤ args.length ∧ uY arO (args.take z.1) = some z.2 }) (fun z => [(1,ptr n1),(3,str (hd ++ z.1.2)),(4,.int .i64 (z.1.1 : Int))]) (fun _ => []) (fun _ => [pt n1 (.cells [.int .i64 tm,slc (pa,ka) args.length].toArray 67 (0,0)),Vw 3 (slc (pa,ka) args.length) args.length (args.flatMap arC)]) (fun z => args.length - z.1.1) ⟨(0,[]),by simp,rfl⟩ ?_ rfl Ent.sel ?_
  · dsimp only
    rw [List.append_nil]
    (repeat (first|exact zM _|refine zI rfl ?_))
  rintro ⟨⟨i,r⟩,hi,hr⟩
  dsimp only at hi hr ⊢
  by_cases hil : i < args.length
  · obtain ⟨x,hx⟩ : ∃ x,args[i]? = some x := ⟨_,List.getElem?_eq_getElem hil⟩
    have hxm := List.mem_of_getElem? hx
    obtain ⟨c,hc⟩ := mapO_mem hpr x hxm
    have hrl := mapO_ar hr hb1 hw
    have hok := hw x hxm
    have hcl := arO_len hok hc
    refine wE (φ := ∃ b o,pa = some ⟨b,o,none⟩) (fun F w hs => (Ent.sel (K := [Vw 3 (slc (pa,ka) args.length) args.length (args.flatMap arC)]) F w hs).tail.out (fun k hk => xW (by omega) k hk)) (fun hp => ?_)
    obtain ⟨q1,o1,rfl⟩ := hp
    have hl1 := uD (n := 1) (by omega)
    have hl0 := uD (n := 0) (by omega)
    obtain ⟨ch,wd,en⟩ := x
    rcases ar_bytes hc with ⟨hch,hen,rfl⟩ | ⟨hch,rfl⟩
    · dsimp only at hch hen
      subst hch
      have d1 := dnum_c 1 (by decide)
      have d2 := dnum_c en (by omega)
      have hle := uD (n := en) (by omega)
      repeat (first|(first|refine zB ?_|refine zE ?_|refine zG ?_|refine zK ?_|refine zP ?_|refine zL rfl ?_)|(first|((first|refine zA rfl ?_);first|refine JOq (yH rfl rfl (by omega)) rfl ?_|refine wI rfl rfl hil rfl ?_|refine wU rfl (lds_eq (xG (u := .bool true) (b := q1) (o := o1) (n := args.length) (cap := ka) (j := i) (i := 0) hil (by rw [yY arC_len _ _ _ _ (by decide) hx];rfl)) rfl) rfl ?_|refine zD rfl rfl ?_|refine yF rfl rfl ?_|refine zF rfl rfl ?_|refine JO_field rfl rfl ?_|refine zH rfl rfl ?_)))
      repeat (first|refine vO ?_|refine tA rfl ?_|refine JG_n rfl rfl rfl (by kernel_rfl) (by kernel_rfl) rfl Ent.sel (by first|exact JQ_index rfl rfl hil|exact tD (app3 hd r (vJ 1) (vJ en)) rfl rfl (by (try simp only [List.length_append]);omega)|exact uQ rfl rfl (by (try simp only [List.length_append]);omega)|exact tC rfl (xG (u := .int .i64 en) (b := q1) (o := o1) (n := args.length) (cap := ka) (j := i) (i := 2) hil (by rw [yY arC_len _ _ _ _ (by decide) hx];rfl))|exact xE rfl|exact vT rfl|exact xL rfl|exact xP rfl|exact JQ_field rfl) ?_|refine JG_jo rfl rfl rfl uX (zR rfl (d1) rfl ⟨Ent.sel,?_⟩)|refine JG_jo rfl rfl rfl uX (zR rfl (d2) rfl ⟨Ent.sel,?_⟩))
      repeat (first|(first|refine zB ?_|refine zE ?_)|(first|((first|refine zA rfl ?_);first|refine yZ (b := 1) rfl rfl (by omega) rfl ?_|refine zD rfl rfl ?_|refine zC rfl rfl ?_)))
      exact ⟨⟨(i + 1,r ++ (vJ 1 ++ vJ en)),by simp only;omega,mapO_take hx hr hc⟩,by simp only;omega,by (repeat (first|exact zM _|refine zI rfl ?_)),rfl,Ent.sel⟩
    · dsimp only at hch hok
      subst hch
      have d0 := dnum_c 0 (by decide)
      have hfz := fold_lt hok
      have d1 := fold_c wd hok
      have d2 := bytes_c (foldZ wd) (by omega)
      have hle := vM (n := foldZ wd) (by omega)
      repeat (first|(first|refine zB ?_|refine zE ?_|refine zG ?_|refine zK ?_|refine zP ?_|refine zL rfl ?_|refine zJ rfl ?_)|(first|((first|refine zA rfl ?_);first|refine JOq (yH rfl rfl (by omega)) rfl ?_|refine wI rfl rfl hil rfl ?_|refine wU rfl (lds_eq (xG (u := .bool false) (b := q1) (o := o1) (n := args.length) (cap := ka) (j := i) (i := 0) hil (by rw [yY arC_len _ _ _ _ (by decide) hx];rfl)) rfl) rfl ?_|refine zD rfl rfl ?_|refine yF rfl rfl ?_|refine zF rfl rfl ?_|refine JO_field rfl rfl ?_|refine zH rfl rfl ?_)))
      repeat (first|refine vO ?_|refine tA rfl ?_|refine JG_n rfl rfl rfl (by kernel_rfl) (by kernel_rfl) rfl Ent.sel (by first|exact JQ_index rfl rfl hil|exact tD (app3 hd r (vJ 0) (wY (foldZ wd))) rfl rfl (by (try simp only [List.length_append]);omega)|exact uQ rfl rfl (by (try simp only [List.length_append]);omega)|exact tC rfl (xG (u := .int .i64 wd) (b := q1) (o := o1) (n := args.length) (cap := ka) (j := i) (i := 1) hil (by rw [yY arC_len _ _ _ _ (by decide) hx];rfl))|exact xE rfl|exact vT rfl|exact xL rfl|exact xP rfl|exact JQ_field rfl) ?_|refine JG_jo rfl rfl rfl uX (zR rfl (d0) rfl ⟨Ent.sel,?_⟩)|refine JG_jo rfl rfl rfl uX (zR rfl (d1) rfl ⟨Ent.sel,?_⟩)|refine JG_jo rfl rfl rfl uX (zR rfl (d2) rfl ⟨Ent.sel,?_⟩))
      repeat (first|(first|refine zB ?_|refine zE ?_)|(first|((first|refine zA rfl ?_);first|refine yZ (b := 1) rfl rfl (by omega) rfl ?_|refine zD rfl rfl ?_|refine zC rfl rfl ?_)))
      exact ⟨⟨(i + 1,r ++ (vJ 0 ++ wY (foldZ wd))),by simp only;omega,mapO_take hx hr hc⟩,by simp only;omega,by (repeat (first|exact zM _|refine zI rfl ?_)),rfl,Ent.sel⟩
  · obtain rfl : i = args.length := by omega
    rw [List.take_length] at hr
    obtain rfl := Option.some.inj (hr.symm.trans hpr)
    repeat (first|(first|refine zB ?_|refine zE ?_|refine zG ?_|refine zJ rfl ?_|refine xA ?_|refine zV ?_)|(first|((first|refine zA rfl ?_);first|refine JOq (yS rfl rfl (by omega)) rfl ?_|refine zD rfl rfl ?_|refine zC rfl rfl ?_|refine yF rfl rfl ?_|refine zF rfl rfl ?_|refine zH rfl rfl ?_)))
    exact zY rfl rfl .nil
end Go.Proofs.YtickblndgihoeaaGreatDoor
