/- Calls of entries without a body; calls through interfaces. -/
import Derived.Test.YtickblndgihoeaaGreatDoorM0
import Derived.Lib.AppendStr
set_option linter.unusedSimpArgs false
namespace Go.Sp
open Go.RowKit
section
variable {P : Program} {N : Nat} {rd : Option Nat} {E : Env} {D : List Deferred} {L : List HP} {Q : wR} {next : Env → List Deferred → List HP → Prop}
variable {d : Option Nat} {ty : TypeId} {pos : String} {after : Array Edge} {g : Option (Nat × Bool)}
theorem evs_map {args : Array Operand} {vs : List Value} {a : Act} (hr : Rep N E D a) (hx : evs E args.toList = some vs) : args.map a.eval = vs.toArray := by
  rw [← hr.evals hx];apply Array.ext';simp
theorem exec_fn {f : FuncId} {args : Array Operand} {ts : Array TypeId} {vs : List Value} {a : Act} (hr : Rep N E D a) (hx : evs E args.toList = some vs) (w : World) :
    (execOp a.eval ⟨d,.call ⟨.value (.func f),args,ts⟩,ty,pos,after,g⟩).run P w = (callFunc f vs.toArray).run P w := by
  simp [execOp,resolve,evs_map hr hx,Act.eval,Deferred.ofValue,invoke]
theorem exec_inv {x : Operand} {name : String} {args : Array Operand} {ts : Array TypeId} {vs : List Value} {a : Act} {t : TypeId} {v r : Value} {f : FuncId} (hr : Rep N E D a) (hx : ev E x = some (.iface t v)) (ha : evs E args.toList = some vs)
    (hm : ∀ w,(Go.method (P.types.size + Made.depth) t v name).run P w = .ok (f,r) w) (w : World) :
    (execOp a.eval ⟨d,.call ⟨.invoke x name,args,ts⟩,ty,pos,after,g⟩).run P w = (callFunc f (r :: vs).toArray).run P w := by
  have h1 : (#[Value.iface t v] ++ vs.toArray).extract 1 (#[Value.iface t v] ++ vs.toArray).size = vs.toArray := by
    apply Array.ext'
    simp
  have h2 : (#[Value.iface t v] ++ vs.toArray)[0]? = some (Value.iface t v) := by simp
  have h0 : (execOp a.eval ⟨d,.call ⟨.invoke x name,args,ts⟩,ty,pos,after,g⟩) = (do let e ← (pure { target := .fn (.method name) #[],args := #[a.eval x] ++ args.map a.eval } : Sem Deferred);invoke e.target e.args) := rfl
  rw [h0,evs_map hr ha,hr.eval hx]
  simp only [Sem.run_bind,Sem.run_pure,Result.andThen_ok,invoke,h2,h1]
  unfold callMethod
  have h3 : ∀ (k : Program → Sem Next),Sem.run P ((program : Sem Program) >>= k) w = Sem.run P (k P) w := fun k => rfl
  rw [h3]
  simp [hm]
theorem JQ_ext {f : FuncId} {args : Array Operand} {ts : Array TypeId} {vs : List Value} {v : Value} (hx : evs E args.toList = some vs) (h : ∀ (F : HP) (w : World),Sat w (F :: L) → (callFunc f vs.toArray).run P w = .ok (.value v) w) :
    JQ P N ⟨d,.call ⟨.value (.func f),args,ts⟩,ty,pos,after,g⟩ E D L v := fun F a hr w hs => by rw [exec_fn hr hx];exact h F w hs
theorem JQ_inv {x : Operand} {name : String} {args : Array Operand} {ts : Array TypeId} {vs : List Value} {t : TypeId} {v r u : Value} {f : FuncId} (hx : ev E x = some (.iface t v)) (ha : evs E args.toList = some vs)
    (hm : ∀ w,(Go.method (P.types.size + Made.depth) t v name).run P w = .ok (f,r) w) (h : ∀ (F : HP) (w : World),Sat w (F :: L) → (callFunc f (r :: vs).toArray).run P w = .ok (.value u) w) :
    JQ P N ⟨d,.call ⟨.invoke x name,args,ts⟩,ty,pos,after,g⟩ E D L u := fun F a hr w hs => by rw [exec_inv hr hx ha hm];exact h F w hs
theorem JO_extA {f : FuncId} {args : Array Operand} {ts : Array TypeId} {vs : List Value} {v : Nat → Value} {o : Obj} (hx : evs E args.toList = some vs) (hr : ∀ w,(callFunc f vs.toArray).run P w = .ok (.value (v w.heap.size)) (w.alloc o)) (hd : dok N d = true)
    (h : ∀ b,next (put E d (v b)) D (pt b o :: L)) : JO P N rd ⟨d,.call ⟨.value (.func f),args,ts⟩,ty,pos,after,g⟩ E D L next Q :=
  JO_value (fun c => by simp) hd fun F a w hrep hs => ⟨v w.heap.size,w.alloc o,pt w.heap.size o :: L,by rw [exec_fn hrep hx,hr],(hs.new o).swap,h _⟩
theorem JO_invE {x : Operand} {name : String} {args : Array Operand} {ts : Array TypeId} {vs : List Value} {t : TypeId} {v r : Value} {f : FuncId} [hf : CF P f] {R : Ending → List HP → Prop} (hx : ev E x = some (.iface t v)) (ha : evs E args.toList = some vs)
    (hm : ∀ w,(Go.method (P.types.size + Made.depth) t v name).run P w = .ok (f,r) w) (hc : Ct P f (r :: vs).toArray L R) (hd : dok N d = true)
    (hv : ∀ u L',R (.returned u) L' → next (put E d u) D L') (hp : ∀ ch L',R (.panicked ch) L' → Q (.panic ch) E D L') : JO P N rd ⟨d,.call ⟨.invoke x name,args,ts⟩,ty,pos,after,g⟩ E D L next Q :=
  JO_enter (fun c => by simp) hd (fun a w hr => by rw [exec_inv hr hx ha hm];exact hf.h _ w) hc hv hp
theorem JO_invV {x : Operand} {name : String} {args : Array Operand} {ts : Array TypeId} {vs : List Value} {t : TypeId} {v r u : Value} {f : FuncId} [hf : CF P f] {L0 K M L1 : List HP} (hx : ev E x = some (.iface t v)) (ha : evs E args.toList = some vs)
    (hm : ∀ w,(Go.method (P.types.size + Made.depth) t v name).run P w = .ok (f,r) w) (hc : Ct P f (r :: vs).toArray K (wZ u L0)) [hs : Sel K L M] [hap : AppH L0 M L1] (hd : dok N d = true)
    (h : next (put E d u) D L1) : JO P N rd ⟨d,.call ⟨.invoke x name,args,ts⟩,ty,pos,after,g⟩ E D L next Q :=
  JO_invE hx ha hm hc.use hd (fun _ _ ⟨_,⟨he,hL⟩,hL'⟩ => by cases he;rw [hL',hL,hap.h];exact h) (fun _ _ ⟨_,⟨he,_⟩,_⟩ => by cases he)
end
end Go.Sp

/- The text of an owned row of bytes. -/
namespace Go.Sp
open Go.RowKit
section
variable {P : Program} {N : Nat} {E : Env} {D : List Deferred} {L M : List HP}
variable {d : Option Nat} {ty : TypeId} {pos : String} {after : Array Edge} {g : Option (Nat × Bool)}
theorem JQ_strO {src dst e : TypeId} [TU P src (.slice e)] [TU P e (.int .u8)] [TU P dst .string] {x : Operand} {bs : List UInt8} {v : Value} {e' sz n : Nat} {cs : List Value} (hx : ev E x = some v) [ho : TkO v L e' sz n cs M] (he : sz = 1) (hn : n = bs.length) (hc : cs = by8 bs) :
    JQ P N ⟨d,.convert src dst x,ty,pos,after,g⟩ E D L (str bs) := fun F a hr w hs => by
  subst he;subst hn;subst hc
  have hs1 : Sat w (xU e' 1 v bs.length (by8 bs) :: F :: M) := (hs.perm (ho.h.cons F)).swap
  have hrun : (convert src dst v).run P w = .ok (.string ⟨bs.toArray⟩) w := by
    obtain ⟨_,⟨rfl,h0,_⟩ | ⟨b,sp,cap,rfl,_,_,_,h⟩⟩ := hs1.own_cases
    · have hb : bs = [] := List.eq_nil_of_length_eq_zero h0
      subst hb
      exact run_convert_bytes_nil (P := P) w src e TU.h TU.h 0 0 dst TU.h
    · refine run_convert_bytes_back w src dst e ⟨b,0,none⟩ cap bs TU.h TU.h TU.h fun j hj => ?_
      rw [addr_add,Nat.zero_add]
      refine cell_of h.pt_heap ?_
      rw [List.getElem?_append_left (by rw [length_by8];exact hj)]
      exact by8_get (List.getElem?_eq_getElem hj)
  simp [execOp,hr.eval hx,hrun]
end
end Go.Sp

/- A text's bytes,put behind an owned row. -/
namespace Go.Sp
open Go.RowKit Go.Lib
theorem strCells_by8 (bs : List UInt8) : strCells ⟨bs.toArray⟩ = by8 bs := by
  simp [strCells,by8]
theorem sat_appendS {P : Program} {w : World} {L : List HP} {t u e ty : Nat} (ht : P.underlying t = some (.slice e)) (hu : P.underlying u = some .string) [TI P e (.int .u8 0) 1 1] {v : Value} {n : Nat} {cs : List Value} (bs : List UInt8)
    (hs : Sat w (xU e 1 v n cs :: L)) (hb : n + bs.length ≤ 140737488355328) :
    ∃ v' w',(Builtin.append_ #[t,u] ty #[v,str bs]).run P w = .ok v' w' ∧ Sat w' (xU e 1 v' (n + bs.length) (cs ++ by8 bs) :: L) := by
  obtain ⟨i,hi,hz,hsize,hbytes⟩ := TI.h (P := P) (t := e) (z := .int .u8 0) (n := 1) (b := 1)
  have hml : n + bs.length ≤ maxLen := by simp [maxLen];omega
  have hsz : (⟨bs.toArray⟩ : ByteArray).size = bs.length := size_str bs
  obtain ⟨h0,hcase⟩ := hs.own_cases
  have grown : ∀ old,Sat w L → Sat (w.drew.alloc (.cells (cs.toArray ++ (by8 bs).toArray ++ Builtin.zeroCells (Value.int .u8 0).cells (grownCap w (n + bs.length) old e - (n + bs.length))) e))
      (xU e 1 (.slice (some ⟨w.heap.size,0,none⟩) (n + bs.length) (grownCap w (n + bs.length) old e)) (n + bs.length) (cs ++ by8 bs) :: L) := fun old hs' => by
    have hge := grownCap_ge w (n + bs.length) old e
    have hmx := grownCap_le_maxLen w (n + bs.length) old e hml
    have hnew := (hs'.world (w' := w.drew) rfl).new (.cells (cs ++ by8 bs ++ (Builtin.zeroCells (Value.int .u8 0).cells (grownCap w (n + bs.length) old e - (n + bs.length))).toList).toArray e)
    have hsz2 : w.drew.heap.size = w.heap.size := rfl
    rw [hsz2] at hnew
    have hcells : (cs ++ by8 bs ++ (Builtin.zeroCells (Value.int .u8 0).cells (grownCap w (n + bs.length) old e - (n + bs.length))).toList).toArray = cs.toArray ++ (by8 bs).toArray ++ Builtin.zeroCells (Value.int .u8 0).cells (grownCap w (n + bs.length) old e - (n + bs.length)) := by apply Array.ext';simp
    have h3 : (cs ++ by8 bs).length + (Builtin.zeroCells (Value.int .u8 0).cells (grownCap w (n + bs.length) old e - (n + bs.length))).toList.length = grownCap w (n + bs.length) old e * 1 := by
      rw [length_cells_pos (sz := 1) rfl,List.length_append,h0,length_by8];omega
    have := Sat.own_block (n := n + bs.length) (sz := 1) (cap := grownCap w (n + bs.length) old e) hnew (by simp [h0,length_by8]) hge hmx h3
    rw [hcells] at this
    exact this
  rcases hcase with ⟨rfl,rfl,hs'⟩ | ⟨b,sp,cap,rfl,hle,hcm,hlen,hs'⟩
  · have hcs : cs = [] := by simpa using h0
    subst hcs
    by_cases hm : bs = []
    · subst hm
      refine ⟨.slice none 0 0,w,?_,by simpa [by8] using hs⟩
      simp [Builtin.append_,yC ht,yC hu,sizeOf,typeInfo,hi,Builtin.lenOf,Builtin.firstCells,hsz]
    · have hpos : 0 < bs.length := List.length_pos_iff.2 hm
      have hrun := run_append_nil_string (P := P) w t u ty e i (.int .u8 0) ht hu hi hz ⟨bs.toArray⟩ (by rw [hsz];exact hpos) (by rw [hsz];omega) (by rw [hsz,hbytes];omega)
      rw [hsz] at hrun
      have hg := grown 0 hs'
      rw [Nat.zero_add] at hg ⊢
      refine ⟨_,_,hrun,?_⟩
      have e1 : (⟨bs.toArray⟩ : ByteArray).data.map (fun b => Value.int .u8 b.toNat) = (by8 bs).toArray := by apply Array.ext';simp [by8]
      rw [e1]
      simpa using hg
  · by_cases hfit : n + bs.length ≤ cap
    · have hroom := run_append_room_string (P := P) w t u ty e i ht hu hi hsize b n cap (cs ++ sp).toArray hs'.pt_heap ⟨bs.toArray⟩ (by rw [hsz];exact hfit) (by
        rw [hsz];simp only [List.size_toArray,List.length_append];omega)
      refine ⟨_,_,hroom,?_⟩
      rw [hsz,strCells_by8]
      have e1 : (cs ++ sp).take n = cs := by rw [← Nat.mul_one n,← h0];simp
      have e2 : (cs ++ sp).drop (n + bs.length) = sp.drop bs.length := by rw [← Nat.mul_one n,← h0];simp
      rw [e1,e2]
      have hb1 := hs'.pt_heap
      have hs3 : Sat (w.setRow b (cs ++ by8 bs ++ sp.drop bs.length).toArray) (pt b (.cells (cs ++ by8 bs ++ sp.drop bs.length).toArray e (0,0)) :: L) := by
        refine hs'.grown rfl rfl rfl (fun k hk hne => ?_) ?_
        · simp [World.setRow,Array.getElem?_modify,Ne.symm hne]
        · simp [World.setRow,Array.getElem?_modify,hb1]
      refine Sat.own_block hs3 ?_ hfit hcm ?_
      · simp [h0,length_by8]
      · simp only [List.length_append,List.length_drop,length_by8]
        omega
    · have hgrow := run_append_grow_string (P := P) w t u ty e i (.int .u8 0) ht hu hi hz ⟨b,0,none⟩ n cap cs (by rw [hsize];exact h0) (fun j x hj => by
        rw [addr_add,Nat.zero_add]
        exact cell_of hs'.pt_heap (by rw [List.getElem?_append_left (List.getElem?_eq_some_iff.1 hj).1];exact hj)) ⟨bs.toArray⟩ (by rw [hsz];omega) (by rw [hsz];omega)
        (by rw [hsz];exact growslice_fits (by omega) (by rw [hbytes];omega))
      rw [hsz,strCells_by8] at hgrow
      exact ⟨_,_,hgrow,grown cap hs'.tail⟩
section
variable {P : Program} {N : Nat} {rd : Option Nat} {E : Env} {D : List Deferred} {L M : List HP} {Q : wR} {next : Env → List Deferred → List HP → Prop}
variable {d : Option Nat} {ty : TypeId} {pos : String} {after : Array Edge} {g : Option (Nat × Bool)}
theorem JO_appendS {x y : Operand} {t u e n : Nat} [TU P t (.slice e)] [TU P u .string] [TI P e (.int .u8 0) 1 1] {v : Value} {cs : List Value} (bs : List UInt8) (hx : ev E x = some v) (hy : ev E y = some (str bs)) [ho : TkO v L e 1 n cs M] (hb : n + bs.length ≤ 140737488355328)
    (hd : dok N d = true) (h : ∀ v',v'.oneCell' = true → next (put E d v') D (xU e 1 v' (n + bs.length) (cs ++ by8 bs) :: M)) : JO P N rd ⟨d,.call ⟨.builtin .append,#[x,y],#[t,u]⟩,ty,pos,after,g⟩ E D L next Q :=
  JO_value (fun c => by simp) hd fun F a w hr hs => by
    have hs1 : Sat w (xU e 1 v n cs :: F :: M) := (hs.perm (ho.h.cons F)).swap
    obtain ⟨v',w',h2,h3⟩ := sat_appendS (P := P) (t := t) (u := u) (ty := ty) TU.h TU.h bs hs1 hb
    exact ⟨v',w',_,by simp [execOp,resolve,invoke,builtin,hr.eval hx,hr.eval hy,h2],h3.swap,h v' (h3.out fun _ hk => own_one hk)⟩
end
end Go.Sp

/- Layer 1: octets: a new reader;the writer. -/
namespace Go.Proofs.YtickblndgihoeaaGreatDoor
open Go Go.Sp
attribute [local irreducible] J JL JO Ct JG JM JQ JQ0 JS CtD yW
theorem newreader_c (bs : List UInt8) (hn : bs.length ≤ maxLen) : Ct Tryz.prog 43 #[str bs] [] (tD (fun x : Nat × Nat × Nat => bs.length ≤ x.2.2) (fun x => ptr x.1) (fun x => [Rd x.1 (.slice (some ⟨x.2.1,0,none⟩) bs.length x.2.2) 0,Vw 1 (.slice (some ⟨x.2.1,0,none⟩) bs.length x.2.2) bs.length (by8 bs)])) := by
  refine yE (vs := [_]) Tryz.func43 rfl Tryz.ntmps43 (by simp) ?_
  repeat (first|(first|refine zB ?_|refine zD ?_|refine zG ?_)|(first|((first|refine zA rfl ?_);first|refine zE rfl rfl ?_|refine zC rfl rfl ?_)))
  refine zA rfl (JO_bytes (bs := bs) rfl hn rfl fun b cap hc => ?_)
  refine zA rfl (yI (cs := [.slice (some ⟨b,0,none⟩) bs.length cap,.int .i64 0]) rfl rfl rfl ?_)
  repeat (first|(first|refine zD ?_|refine zR ?_)|(first|((first|refine zA rfl ?_);first|refine zC rfl rfl ?_|refine yB rfl rfl (fun r => ?_))))
  exact ret_one rfl rfl (r,b,cap) hc rfl Ent.sel
abbrev Wr (b : Nat) (v : Value) : HP := pt b (.cells #[v] 169 (0,0))
theorem newwriter_c : Ct Tryz.prog 37 #[] [] (tD (fun _ : Nat => True) ptr (fun b => [Wr b (.slice none 0 0),xU 5 1 (.slice none 0 0) 0 []])) := by
  refine yE (vs := []) Tryz.func37 rfl Tryz.ntmps37 (by simp) ?_
  repeat (first|(first|refine zB ?_|refine zD ?_|refine zG ?_|refine zR ?_)|(first|((first|refine zA rfl ?_);first|refine yI (cs := [.slice none 0 0]) rfl rfl rfl ?_|refine zC rfl rfl ?_|refine yB rfl rfl (fun r => ?_))))
  exact ret_one rfl rfl r trivial rfl ((Ent.cons (A := xU 5 1 (.slice none 0 0) 0 []) fun w M h => h.own_nil).trans Ent.sel)
theorem wbyte_c (b : Nat) (v : Value) (bs : List UInt8) (x : UInt8) (hb : bs.length ≤ 1000000) : Ct Tryz.prog 40 #[ptr b,.int .u8 ((x.toNat : Nat) : Int)] [Wr b v,xU 5 1 v bs.length (by8 bs)]
    (tD (fun _ : Value => True) (fun _ => .tuple #[]) (fun v' => [Wr b v',xU 5 1 v' (bs.length + 1) (by8 bs ++ [.int .u8 ((x.toNat : Nat) : Int)])])) := by
  refine yE (vs := [_,_]) Tryz.func40 rfl Tryz.ntmps40 (by simp) ?_
  repeat (first|(first|refine zB ?_|refine zD ?_|refine zG ?_|refine zL rfl ?_)|(first|((first|refine zA rfl ?_);first|refine JOq (JQ_neP rfl) rfl ?_|refine JOq (yV rfl) rfl ?_|refine zE rfl rfl ?_|refine zF rfl rfl ?_|refine zH rfl rfl ?_|refine yP rfl rfl rfl (by decide) rfl (fun r => ?_))))
  refine zA rfl (vO (sz := 1) (n := bs.length) (m := 1) (news := [.int .u8 ((x.toNat : Nat) : Int)]) rfl rfl vN rfl (by decide) rfl (by simp [Value.oneCell']) (by omega) (by decide) rfl fun v' hv' => ?_)
  repeat (first|(first|refine zD ?_)|(first|((first|refine zA rfl ?_);first|refine JOq (yV rfl) rfl ?_|refine zF rfl rfl ?_|refine zW rfl rfl (by first | rfl | assumption) rfl ?_)))
  exact ⟨rfl,_,res_none rfl,_,Ent.sel,v',trivial,rfl,rfl⟩
theorem wtext_c (b : Nat) (v : Value) (bs : List UInt8) : Ct Tryz.prog 42 #[ptr b] [Wr b v,xU 5 1 v bs.length (by8 bs)] (wZ (str bs) [Wr b v,xU 5 1 v bs.length (by8 bs)]) := by
  refine yE (vs := [_]) Tryz.func42 rfl Tryz.ntmps42 (by simp) ?_
  repeat (first|(first|refine zB ?_|refine zD ?_|refine zG ?_|refine zP ?_|refine zK rfl ?_|refine zR ?_)|(first|((first|refine zA rfl ?_);first|refine JOq (JQ_eqP rfl) rfl ?_|refine JOq (yV rfl) rfl ?_|refine JOq (JQ_strO (bs := bs) rfl rfl rfl rfl) rfl ?_|refine zE rfl rfl ?_|refine zC rfl rfl ?_|refine zF rfl rfl ?_|refine zH rfl rfl ?_)))
  exact zS rfl rfl Ent.sel
theorem wput_c (b : Nat) (v : Value) (bs xs : List UInt8) (hb : bs.length + xs.length ≤ 140737488355328) : Ct Tryz.prog 38 #[ptr b,str xs] [Wr b v,xU 5 1 v bs.length (by8 bs)]
    (tD (fun _ : Value => True) (fun _ => .tuple #[]) (fun v' => [Wr b v',xU 5 1 v' (bs.length + xs.length) (by8 bs ++ by8 xs)])) := by
  refine yE (vs := [_,_]) Tryz.func38 rfl Tryz.ntmps38 (by simp) ?_
  repeat (first|(first|refine zB ?_|refine zD ?_|refine zG ?_|refine zL rfl ?_)|(first|((first|refine zA rfl ?_);first|refine JOq (JQ_neP rfl) rfl ?_|refine JOq (yV rfl) rfl ?_|refine zE rfl rfl ?_|refine zF rfl rfl ?_|refine zH rfl rfl ?_)))
  refine zA rfl (JO_appendS (n := bs.length) xs rfl rfl hb rfl fun v' hv' => ?_)
  repeat (first|(first|refine zD ?_)|(first|((first|refine zA rfl ?_);first|refine JOq (yV rfl) rfl ?_|refine zF rfl rfl ?_|refine zW rfl rfl (by first | rfl | assumption) rfl ?_)))
  exact ⟨rfl,_,res_none rfl,_,Ent.sel,v',trivial,rfl,rfl⟩
end Go.Proofs.YtickblndgihoeaaGreatDoor

/- Layer 1: octets: a reader by its bytes alone. -/
namespace Go.Proofs.YtickblndgihoeaaGreatDoor
open Go Go.Sp
def RdB (b : Nat) (bs : List UInt8) (pl : Int) : HP := fun h => ∃ x : Option Addr × Nat,bs.length ≤ x.2 ∧ Star [Rd b (.slice x.1 bs.length x.2) pl,Vw 1 (.slice x.1 bs.length x.2) bs.length (by8 bs)] h
theorem rdb_open {b : Nat} {bs : List UInt8} {pl : Int} {w : World} {L : List HP} (h : Sat w (RdB b bs pl :: L)) : ∃ p cap,bs.length ≤ cap ∧ Sat w (Rd b (.slice p bs.length cap) pl :: Vw 1 (.slice p bs.length cap) bs.length (by8 bs) :: L) := by
  obtain ⟨⟨p,cap⟩,h1⟩ := h.outE (α := Option Addr × Nat) (B := fun x k => bs.length ≤ x.2 ∧ Star [Rd b (.slice x.1 bs.length x.2) pl,Vw 1 (.slice x.1 bs.length x.2) bs.length (by8 bs)] k) (fun k ⟨x,hx⟩ => ⟨x,hx⟩)
  have h2 : bs.length ≤ cap := h1.out fun k hk => hk.1
  have h3 := h1.conv fun k hk => hk.2
  exact ⟨p,cap,h2,(Sat.fold (L1 := [Rd b (.slice p bs.length cap) pl,Vw 1 (.slice p bs.length cap) bs.length (by8 bs)])).2 h3⟩
theorem rdb_close {b : Nat} {bs : List UInt8} {pl : Int} {w : World} {L : List HP} {p : Option Addr} {cap : Nat} (hc : bs.length ≤ cap) (h : Sat w (Rd b (.slice p bs.length cap) pl :: Vw 1 (.slice p bs.length cap) bs.length (by8 bs) :: L)) : Sat w (RdB b bs pl :: L) :=
  ((Sat.fold (L1 := [Rd b (.slice p bs.length cap) pl,Vw 1 (.slice p bs.length cap) bs.length (by8 bs)])).1 h).conv fun _ hk => ⟨(p,cap),hc,hk⟩
theorem ct_rdb {f : FuncId} {args : Array Value} {b : Nat} {bs : List UInt8} {pl : Int} {R : Ending → List HP → Prop}
    (h : ∀ p cap,bs.length ≤ cap → Ct Tryz.prog f args [Rd b (.slice p bs.length cap) pl,Vw 1 (.slice p bs.length cap) bs.length (by8 bs)] R) : Ct Tryz.prog f args [RdB b bs pl] R := fun F w hs => by
  obtain ⟨p,cap,hc,h1⟩ := rdb_open hs.swap
  refine h p cap hc F w (h1.perm ?_)
  exact (List.Perm.cons _ (List.Perm.swap _ _ _)).trans (List.Perm.swap _ _ _)
theorem Ct.post {f : FuncId} {args : Array Value} {L : List HP} {R R' : Ending → List HP → Prop} (h : Ct Tryz.prog f args L R) (hr : ∀ e L',R e L' → ∃ L'',Ent L' L'' ∧ R' e L'') : Ct Tryz.prog f args L R' := fun F w hs =>
  (h F w hs).mono fun _ w' ⟨hne,_,r,s⟩ => let ⟨L'',he,r'⟩ := hr _ _ r;⟨hne,L'',r',he F w' s⟩
theorem rdb_tail {b : Nat} {bs : List UInt8} {pl : Int} {p : Option Addr} {cap n : Nat} (hn : n ≤ bs.length) (hc : bs.length ≤ cap) : Ent [Rd b (.slice (tailP p cap n) (bs.length - n) (cap - n)) pl,Vw 1 (.slice p bs.length cap) bs.length (by8 bs)] [RdB b (bs.drop n) pl] := fun F w hs => by
  have e1 : (bs.drop n).length = bs.length - n := List.length_drop
  have h1 : Sat w (Vw 1 (.slice p bs.length cap) bs.length (by8 bs) :: Rd b (.slice (tailP p cap n) (bs.length - n) (cap - n)) pl :: [F]) := hs.perm ((List.Perm.cons _ (List.Perm.swap _ _ _)).trans ((List.Perm.swap _ _ _).trans (List.Perm.cons _ (List.Perm.swap _ _ _))))
  have h2 := h1.conv fun k hk => vw_drop (c := cap - n) hn hc k hk
  rw [by8_drop,← e1] at h2
  exact (rdb_close (bs := bs.drop n) (by rw [e1];omega) h2.swap).swap
theorem rdb_same {b : Nat} {bs : List UInt8} {pl : Int} {p : Option Addr} {cap : Nat} (hc : bs.length ≤ cap) : Ent [Rd b (.slice p bs.length cap) pl,Vw 1 (.slice p bs.length cap) bs.length (by8 bs)] [RdB b bs pl] := fun _ _ hs =>
  (rdb_close hc (hs.perm ((List.Perm.swap _ _ _).trans (List.Perm.cons _ (List.Perm.swap _ _ _))))).swap
theorem keepV {b : Nat} {bs : List UInt8} {pl : Int} {p : Option Addr} {cap : Nat} : Ent [Rd b (.slice p bs.length cap) pl,Vw 1 (.slice p bs.length cap) bs.length (by8 bs)] ([Rd b (.slice p bs.length cap) pl,Vw 1 (.slice p bs.length cap) bs.length (by8 bs)] ++ [Vw 1 (.slice p bs.length cap) bs.length (by8 bs)]) :=
  (Ent.dup (Vw 1 (.slice p bs.length cap) bs.length (by8 bs))).trans (Ent.sel (K := [Rd b (.slice p bs.length cap) pl,Vw 1 (.slice p bs.length cap) bs.length (by8 bs),Vw 1 (.slice p bs.length cap) bs.length (by8 bs)]))
theorem byte_B (b : Nat) (x : UInt8) (bs : List UInt8) (pl : Int) (hpl : 0 ≤ pl ∧ pl + 1 ≤ 9223372036854775807) :
    Ct Tryz.prog 99 #[ptr b] [RdB b (x :: bs) pl] (wZ (.tuple #[.int .u8 ((x.toNat : Nat) : Int),.nilIface]) [RdB b bs (pl + 1)]) :=
  ct_rdb fun p cap hc => Ct.post (Ct.heap keepV ((byte_ok b p cap pl x bs hc hpl).frame [Vw 1 (.slice p (x :: bs).length cap) (x :: bs).length (by8 (x :: bs))])) fun _ _ ⟨_,⟨he,hL⟩,hL'⟩ => ⟨_,by rw [hL',hL];exact rdb_tail (bs := x :: bs) (n := 1) (by simp) hc,he,rfl⟩
theorem tL (b : Nat) (bs : List UInt8) (pl : Int) : Ct Tryz.prog 98 #[ptr b] [RdB b bs pl] (wZ (.int .i64 pl) [RdB b bs pl]) :=
  ct_rdb fun p cap hc => Ct.post ((place_c b (.slice p bs.length cap) pl).frame [Vw 1 (.slice p bs.length cap) bs.length (by8 bs)]) fun _ _ ⟨_,⟨he,hL⟩,hL'⟩ => ⟨_,by rw [hL',hL];exact rdb_same hc,he,rfl⟩
theorem byte_shortB (b : Nat) (pl : Int) : Ct Tryz.prog 99 #[ptr b] [RdB b [] pl] (FailsV (.int .u8 0) 3 pl [RdB b [] pl]) :=
  ct_rdb fun p cap hc => Ct.post ((byte_short b p cap pl).frame [Vw 1 (.slice p ([] : List UInt8).length cap) ([] : List UInt8).length (by8 [])]) fun _ _ ⟨_,⟨q,he,hL⟩,hL'⟩ => ⟨_,by rw [hL',hL];exact Ent.keep (rdb_same hc),q,he,rfl⟩
theorem end_longB (b : Nat) (bs : List UInt8) (pl : Int) (h : 0 < bs.length) : Ct Tryz.prog 46 #[ptr b] [RdB b bs pl] (FailsE 4 pl [RdB b bs pl]) :=
  ct_rdb fun p cap hc => Ct.post ((end_long b p bs.length cap pl h).frame [Vw 1 (.slice p bs.length cap) bs.length (by8 bs)]) fun _ _ ⟨_,⟨q,he,hL⟩,hL'⟩ => ⟨_,by rw [hL',hL];exact Ent.keep (rdb_same hc),q,he,rfl⟩
theorem end_okB (b : Nat) (pl : Int) : Ct Tryz.prog 46 #[ptr b] [RdB b [] pl] (wZ .nilIface [RdB b [] pl]) :=
  ct_rdb fun p cap hc => Ct.post ((end_ok b p cap pl).frame [Vw 1 (.slice p ([] : List UInt8).length cap) ([] : List UInt8).length (by8 [])]) fun _ _ ⟨_,⟨he,hL⟩,hL'⟩ => ⟨_,by rw [hL',hL];exact rdb_same hc,he,rfl⟩
theorem newreader_B (bs : List UInt8) (hn : bs.length ≤ maxLen) : Ct Tryz.prog 43 #[str bs] [] (tD (fun _ : Nat => True) ptr (fun q => [RdB q bs 0])) :=
  Ct.post (newreader_c bs hn) fun _ _ ⟨x,hx,he,hL⟩ => ⟨_,by rw [hL];exact rdb_same hx,x.1,trivial,he,rfl⟩
theorem rdb_part {b q : Nat} {bs : List UInt8} {pl pl' : Int} {p : Option Addr} {cap n : Nat} (hn : n ≤ bs.length) (hc : bs.length ≤ cap) :
    Ent [Rd b (.slice (tailP p cap n) (bs.length - n) (cap - n)) pl',Rd q (.slice p n n) pl,Vw 1 (.slice p bs.length cap) bs.length (by8 bs)] [RdB b (bs.drop n) pl',RdB q (bs.take n) pl] := fun F w hs => by
  have e1 : (bs.take n).length = n := by rw [List.length_take];omega
  have h1 : Sat w ([F,Rd q (.slice p n n) pl,Vw 1 (.slice p n n) n (by8 (bs.take n)),Rd b (.slice (tailP p cap n) (bs.length - n) (cap - n)) pl',Vw 1 (.slice p bs.length cap) bs.length (by8 bs)]) :=
    ((ent_cut (p := p) (n := bs.length) (m := n) (cap := cap) (c := n) (bs := bs) hn).trans (Ent.sel (K := [Rd q (.slice p n n) pl,Vw 1 (.slice p n n) n (by8 (bs.take n)),Rd b (.slice (tailP p cap n) (bs.length - n) (cap - n)) pl',Vw 1 (.slice p bs.length cap) bs.length (by8 bs)]))) F w hs
  have h2 := Ent.keep (A := Vw 1 (.slice p n n) n (by8 (bs.take n))) (rdb_tail (b := b) (pl := pl') (p := p) hn hc)
  have h3 := Ent.keep (A := Rd q (.slice p n n) pl) h2 F w h1
  have h4 : Sat w (Rd q (.slice p n n) pl :: Vw 1 (.slice p n n) n (by8 (bs.take n)) :: [F,RdB b (bs.drop n) pl']) := h3.perm ((List.Perm.swap _ _ _).trans (List.Perm.cons _ (List.Perm.swap _ _ _)))
  have h5 : Sat w (RdB q (bs.take n) pl :: [F,RdB b (bs.drop n) pl']) := rdb_close (p := p) (cap := n) (by rw [e1];exact Nat.le_refl n) (by rw [e1];exact h4)
  exact h5.perm ((List.Perm.swap _ _ _).trans (List.Perm.cons _ (List.Perm.swap _ _ _)))
theorem part_B (b : Nat) (bs : List UInt8) (pl : Int) (n : Nat) (hn : n ≤ bs.length) (hpl : 0 ≤ pl ∧ pl + n ≤ 9223372036854775807) :
    Ct Tryz.prog 106 #[ptr b,.int .i64 (n : Int)] [RdB b bs pl] (tD (fun _ : Nat => True) (fun q => .tuple #[ptr q,.nilIface]) (fun q => [RdB b (bs.drop n) (pl + n),RdB q (bs.take n) pl])) :=
  ct_rdb fun p cap hc => Ct.post ((part_ok b p bs.length cap pl n hn hc hpl).frame [Vw 1 (.slice p bs.length cap) bs.length (by8 bs)]) fun _ _ ⟨_,⟨q,hq,he,hL⟩,hL'⟩ => ⟨_,by rw [hL',hL];exact rdb_part hn hc,q,hq,he,rfl⟩
theorem part_negB (b : Nat) (bs : List UInt8) (pl n : Int) (h : n < 0) : Ct Tryz.prog 106 #[ptr b,.int .i64 n] [RdB b bs pl] (FailsV (.pointer none) 2 pl [RdB b bs pl]) :=
  ct_rdb fun p cap hc => Ct.post ((part_neg b (.slice p bs.length cap) pl n h).frame [Vw 1 (.slice p bs.length cap) bs.length (by8 bs)]) fun _ _ ⟨_,⟨q,he,hL⟩,hL'⟩ => ⟨_,by rw [hL',hL];exact Ent.keep (rdb_same hc),q,he,rfl⟩
theorem part_shortB (b : Nat) (bs : List UInt8) (pl n : Int) (h : (bs.length : Int) < n) : Ct Tryz.prog 106 #[ptr b,.int .i64 n] [RdB b bs pl] (FailsV (.pointer none) 3 pl [RdB b bs pl]) :=
  ct_rdb fun p cap hc => Ct.post ((part_short b p bs.length cap pl n h).frame [Vw 1 (.slice p bs.length cap) bs.length (by8 bs)]) fun _ _ ⟨_,⟨q,he,hL⟩,hL'⟩ => ⟨_,by rw [hL',hL];exact Ent.keep (rdb_same hc),q,he,rfl⟩
end Go.Proofs.YtickblndgihoeaaGreatDoor

/- Layer 1: the document's reader. -/
namespace Go.Proofs.YtickblndgihoeaaGreatDoor
open Go Go.Sp
attribute [local irreducible] J JL JO Ct JG JM JQ JQ0 JS CtD yW
abbrev faultV (code at_ : Int) : Value := .agg #[.int .i64 code,.int .i64 at_]
end Go.Proofs.YtickblndgihoeaaGreatDoor

/- Layer 1: the document's reader: a part. -/
namespace Go.Proofs.YtickblndgihoeaaGreatDoor
open Go Go.Sp
attribute [local irreducible] J JL JO Ct JG JM JQ JQ0 JS CtD yW
end Go.Proofs.YtickblndgihoeaaGreatDoor
