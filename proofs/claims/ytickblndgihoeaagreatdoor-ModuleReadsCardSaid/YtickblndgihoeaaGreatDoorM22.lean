/- Layer 11: reading: what was read, or a stop with a fault; numbers, flags, edges. -/
import Derived.Test.YtickblndgihoeaaGreatDoorM21
set_option linter.unusedSimpArgs false
namespace Go.Proofs.YtickblndgihoeaaGreatDoor
open Go Go.Sp
inductive RO (α : Type) where
  | ok (x : α) (bs : List UInt8) (pl : Int)
  | bad (c a : Int)
def RO.bind {α β : Type} (m : RO α) (k : α → List UInt8 → Int → RO β) : RO β := match m with
  | .ok x bs pl => k x bs pl
  | .bad c a => .bad c a
abbrev Rdr (α : Type) := List UInt8 → Int → RO α
@[simp] theorem bind_ok {α β : Type} (x : α) (bs : List UInt8) (pl : Int) (k : α → List UInt8 → Int → RO β) : (RO.ok x bs pl).bind k = k x bs pl := rfl
@[simp] theorem bind_bad {α β : Type} (c a : Int) (k : α → List UInt8 → Int → RO β) : (RO.bad c a : RO α).bind k = .bad c a := rfl
def GoodR {α : Type} (rd : Rdr α) : Prop := ∀ bs pl x bs' pl',rd bs pl = .ok x bs' pl' → pl' + bs'.length = pl + bs.length ∧ pl ≤ pl'
theorem GoodR.pure {α : Type} {x : α} : GoodR (fun bs pl => .ok x bs pl) := fun _ _ _ _ _ h => by cases h;exact ⟨rfl,Int.le_refl _⟩
theorem GoodR.bind {α β : Type} {r : Rdr α} {k : α → Rdr β} (hr : GoodR r) (hk : ∀ x,GoodR (k x)) : GoodR (fun bs pl => (r bs pl).bind (k ·)) := fun bs pl y bs2 pl2 h => by
  dsimp only at h
  cases h1 : r bs pl with
  | bad c a => rw [h1] at h;cases h
  | ok x bs1 pl1 =>
    rw [h1] at h
    have a1 := hr _ _ _ _ _ h1
    have a2 := hk x _ _ _ _ _ h
    omega
def uM (most : Int) : Rdr Nat := fun bs pl => if (smA bs pl most).2.1 ≠ 0 then .bad (smA bs pl most).2.1 (smA bs pl most).2.2 else .ok (smA bs pl most).1 (uA bs pl).rest (uA bs pl).pl
def flagR : Rdr Bool := fun bs pl => (uM 1 bs pl).bind fun n bs pl => .ok (decide (n = 1)) bs pl
def wO : Rdr (Int × Int) := fun bs pl => (uM 63 bs pl).bind fun a bs pl => (uM 1000 bs pl).bind fun b bs pl => .ok ((a : Int),(b : Int)) bs pl
def wholeR : Rdr Int := fun bs pl => if (uA bs pl).c ≠ 0 then .bad (uA bs pl).c (uA bs pl).a else .ok (uB (uA bs pl).n) (uA bs pl).rest (uA bs pl).pl
def endR (bs : List UInt8) (pl : Int) : RO Unit := if bs.length = 0 then .ok () bs pl else .bad 4 pl
theorem uN (most : Int) : GoodR (uM most) := fun bs pl x bs' pl' h => by
  unfold uM at h
  have := uA_ok bs pl
  split at h
  · cases h
  · cases h;exact ⟨this.2.1,this.2.2.1⟩
theorem good_whole : GoodR wholeR := fun bs pl x bs' pl' h => by
  unfold wholeR at h
  have := uA_ok bs pl
  split at h
  · cases h
  · cases h;exact ⟨this.2.1,this.2.2.1⟩
theorem good_flag : GoodR flagR := (uN 1).bind fun _ => GoodR.pure
theorem good_edge : GoodR wO := (uN 63).bind fun _ => (uN 1000).bind fun _ => GoodR.pure
theorem numR_le {most : Int} {bs bs' : List UInt8} {pl pl' : Int} {n : Nat} (h : uM most bs pl = .ok n bs' pl') : (n : Int) ≤ most := by
  unfold uM at h
  split at h
  · cases h
  · rename_i h0;cases h;exact sm_le (by simpa using h0)
def RdE {α β : Type} (r : RO α) (q : Nat) (er : β → α) (v : β → Value) (R : β → HP) (A : HP) : Ending → List HP → Prop := fun e L => match r with
  | .ok x bs pl => ∃ y,er y = x ∧ e = .returned (v y) ∧ L = [RdB q bs pl,R y,A]
  | .bad c a => ∃ qf,e = .panicked [{ v := stopV (xH qf),recovered := false }] ∧ L = [Ft qf c a]
def PanF (q : Nat) : Ending → List HP → Prop := fun e L => e = .panicked [{ v := stopV (xH q),recovered := false }] ∧ L = []
section
variable {N : Nat} {rd : Option Nat} {E : Env} {D : List Deferred} {L : List HP} {Q : uF} {next : Env → List Deferred → List HP → Prop}
variable {d : Option Nat} {ty : TypeId} {pos : String} {after : Array Edge} {g : Option (Nat × Bool)}
variable {α β : Type} {r : RO α} {q : Nat} {er : β → α} {v : β → Value} {R : β → HP} {A : HP} {bs : List UInt8} {pl : Int}
theorem wR {M : List HP} {f : FuncId} [hf : CF Tryz.prog f] {args : Array Operand} {ts : Array TypeId} {vs : List Value} (hx : evs E args.toList = some vs)
    (hc : Ct Tryz.prog f vs.toArray [RdB q bs pl,A] (RdE r q er v R A)) [hs : Sel [RdB q bs pl,A] L M] (hd : dok N d = true) (hv : ∀ x bs' pl' y,r = .ok x bs' pl' → er y = x → next (put E d (v y)) D (RdB q bs' pl' :: R y :: A :: M))
    (hn : ∀ c a qf,r = .bad c a → Q (.panic [{ v := stopV (xH qf),recovered := false }]) E D (Ft qf c a :: M)) : JO Tryz.prog N rd ⟨d,.call ⟨.value (.func f),args,ts⟩,ty,pos,after,g⟩ E D L next Q :=
  JO_call hx hc.use hd
    (fun _ _ ⟨_,h,hL'⟩ => by
      cases r with
      | bad c a => obtain ⟨qf,he,_⟩ := h;exact absurd he (by simp)
      | ok x bs' pl' => obtain ⟨y,hy,he,hL⟩ := h;cases he;rw [hL',hL];exact hv x bs' pl' y rfl hy)
    (fun _ _ ⟨_,h,hL'⟩ => by
      cases r with
      | ok x bs' pl' => obtain ⟨y,hy,he,_⟩ := h;exact absurd he (by simp)
      | bad c a => obtain ⟨qf,he,hL⟩ := h;cases he;rw [hL',hL];exact hn c a qf rfl)
theorem JO_callCR {M : List HP} {f : FuncId} [hf : CF Tryz.prog f] {x : Operand} {args : Array Operand} {ts : Array TypeId} {vs fs cs : List Value} (hfv : ev E x = some (.func (.func f) fs.toArray cs.toArray)) (hx : evs E args.toList = some vs)
    (hc : Ct Tryz.prog f (fs ++ vs ++ cs).toArray [RdB q bs pl,A] (RdE r q er v R A)) [hs : Sel [RdB q bs pl,A] L M] (hd : dok N d = true) (hv : ∀ x bs' pl' y,r = .ok x bs' pl' → er y = x → next (put E d (v y)) D (RdB q bs' pl' :: R y :: A :: M))
    (hn : ∀ c a qf,r = .bad c a → Q (.panic [{ v := stopV (xH qf),recovered := false }]) E D (Ft qf c a :: M)) : JO Tryz.prog N rd ⟨d,.call ⟨.value x,args,ts⟩,ty,pos,after,g⟩ E D L next Q :=
  JO_callV hfv hx hc.use hd
    (fun _ _ ⟨_,h,hL'⟩ => by
      cases r with
      | bad c a => obtain ⟨qf,he,_⟩ := h;exact absurd he (by simp)
      | ok x bs' pl' => obtain ⟨y,hy,he,hL⟩ := h;cases he;rw [hL',hL];exact hv x bs' pl' y rfl hy)
    (fun _ _ ⟨_,h,hL'⟩ => by
      cases r with
      | ok x bs' pl' => obtain ⟨y,hy,he,_⟩ := h;exact absurd he (by simp)
      | bad c a => obtain ⟨qf,he,hL⟩ := h;cases he;rw [hL',hL];exact hn c a qf rfl)
theorem JO_callPF {q : Nat} {f : FuncId} [hf : CF Tryz.prog f] {args : Array Operand} {ts : Array TypeId} {vs : List Value} (hx : evs E args.toList = some vs) (hc : Ct Tryz.prog f vs.toArray [] (PanF q)) (hd : dok N d = true)
    (hn : Q (.panic [{ v := stopV (xH q),recovered := false }]) E D L) : JO Tryz.prog N rd ⟨d,.call ⟨.value (.func f),args,ts⟩,ty,pos,after,g⟩ E D L next Q :=
  JO_call hx (Ct.use (M := L) hc) hd (fun _ _ ⟨_,⟨he,_⟩,_⟩ => absurd he (by simp)) (fun _ _ ⟨_,⟨he,hL⟩,hL'⟩ => by cases he;rw [hL',hL];exact hn)
variable {fn : Func} {P : Program}
theorem vG {c a : Int} {qf : Nat} {M : List HP} [t : Tk (Ft qf c a) L M] (h : r = .bad c a) : ([] : List Deferred) = [] ∧ ∃ L',Ent L L' ∧ RdE r q er v R A (.panicked [{ v := stopV (xH qf),recovered := false }]) L' :=
  ⟨rfl,[Ft qf c a],(Ent.perm t.h).trans (Ent.keep Ent.nil),by rw [h];exact ⟨qf,rfl,rfl⟩⟩
theorem tN {u : Value} {x : α} (hu : Res P N fn E L u) (h : r = .ok x bs pl) (y : β) (hy : er y = x) (hv : u = v y) (he : Ent L [RdB q bs pl,R y,A]) : bodyQ P N fn (fun e L => ∃ L',Ent L L' ∧ RdE r q er v R A e L') .ret E [] L :=
  ⟨rfl,u,hu,_,he,by rw [h];exact ⟨y,hy,by rw [hv],rfl⟩⟩
theorem rdE_end {u : Value} {x : α} (hu : Res P N fn E L u) (h : r = .ok x bs pl) (y : β) (hy : er y = x) (hv : u = v y) (he : Ent L [RdB q bs pl,R y,A]) : bodyQ P N fn (fun e L => ∃ L',Ent L L' ∧ RdE r q er v R A e L') .normal E [] L :=
  ⟨rfl,u,hu,_,he,by rw [h];exact ⟨y,hy,by rw [hv],rfl⟩⟩
end
abbrev rdg (q : Nat) : Value := .agg #[ptr q]
abbrev NoR {β : Type} : β → HP := fun _ => Emp
attribute [local irreducible] callFunc Go.method J JL JO JR JR1 JRl Ct JG JM JM1 JW JW1 JQ JQ0 JS CtD xB RdB Er by8 Gl Emp uA smA
theorem wholeI_ok (n : Int) : Ct Tryz.prog 140 #[.int .i64 n,.nilIface] [] (wF (.int .i64 n) []) := by
  refine yE (vs := [_,_]) Tryz.func140 rfl Tryz.ntmps140 (by simp) ?_
  repeat (first|(first|refine zB ?_|refine zE ?_|refine zG ?_|refine zP ?_|refine zJ rfl ?_|refine zV ?_)|(first|((first|refine zA rfl ?_);first|refine JOq (uJ rfl) rfl ?_|refine zD rfl rfl ?_|refine zC rfl rfl ?_)))
  exact zY rfl rfl Ent.nil
theorem wholeI_bad (n : Int) (q : Nat) : Ct Tryz.prog 140 #[.int .i64 n,xH q] [] (PanF q) := by
  refine yE (vs := [_,_]) Tryz.func140 rfl Tryz.ntmps140 (by simp) ?_
  repeat (first|(first|refine zB ?_|refine zE ?_|refine zG ?_|refine zL rfl ?_)|(first|((first|refine zA rfl ?_);first|refine JOq (JQ_neIf1 rfl) rfl ?_|refine yG (cs := [xH q]) rfl rfl rfl ?_|refine JO_panic rfl ?_|refine zD rfl rfl ?_|refine zC rfl rfl ?_|refine vD (by simp) rfl rfl ?_)))
  exact ⟨rfl,_,.nil,rfl,rfl⟩
theorem wholeL_ok (n : Int) : Ct Tryz.prog 170 #[.int .i64 n,.nilIface] [] (wF (.int .i64 n) []) := by
  refine yE (vs := [_,_]) Tryz.func170 rfl Tryz.ntmps170 (by simp) ?_
  repeat (first|(first|refine zB ?_|refine zE ?_|refine zG ?_|refine zP ?_|refine zJ rfl ?_|refine zV ?_)|(first|((first|refine zA rfl ?_);first|refine JOq (uJ rfl) rfl ?_|refine zD rfl rfl ?_|refine zC rfl rfl ?_)))
  exact zY rfl rfl Ent.nil
theorem wholeL_bad (n : Int) (q : Nat) : Ct Tryz.prog 170 #[.int .i64 n,xH q] [] (PanF q) := by
  refine yE (vs := [_,_]) Tryz.func170 rfl Tryz.ntmps170 (by simp) ?_
  repeat (first|(first|refine zB ?_|refine zE ?_|refine zG ?_|refine zL rfl ?_)|(first|((first|refine zA rfl ?_);first|refine JOq (JQ_neIf1 rfl) rfl ?_|refine yG (cs := [xH q]) rfl rfl rfl ?_|refine JO_panic rfl ?_|refine zD rfl rfl ?_|refine zC rfl rfl ?_|refine vD (by simp) rfl rfl ?_)))
  exact ⟨rfl,_,.nil,rfl,rfl⟩
theorem numR_cases (most : Int) (bs : List UInt8) (pl : Int) : (∃ c a,c ≠ 0 ∧ smA bs pl most = (0,c,a) ∧ uM most bs pl = .bad c a) ∨ ∃ n : Nat,uA bs pl = ⟨n,0,0,(uA bs pl).rest,(uA bs pl).pl⟩ ∧ (n : Int) ≤ most ∧ uM most bs pl = .ok n (uA bs pl).rest (uA bs pl).pl := by
  have ha := uA_a bs pl
  by_cases h : (smA bs pl most).2.1 ≠ 0
  · left
    refine ⟨_,_,h,?_,by unfold uM;rw [if_pos h]⟩
    unfold smA at h ⊢
    split
    · rfl
    · rename_i h1
      rw [if_neg h1] at h
      split
      · rfl
      · rename_i h2;rw [if_neg h2] at h;exact absurd rfl h
  · right
    have hle := sm_le (bs := bs) (pl := pl) (most := most) (by simpa using h)
    have hn : uM most bs pl = .ok (smA bs pl most).1 (uA bs pl).rest (uA bs pl).pl := by unfold uM;rw [if_neg h]
    unfold smA at h hle hn
    by_cases h1 : (uA bs pl).c ≠ 0
    · rw [if_pos h1] at h;exact absurd h1 h
    · rw [if_neg h1] at h hle hn
      by_cases h2 : most < 0 ∨ most < ((uA bs pl).n : Int)
      · rw [if_pos h2] at h;simp at h
      · rw [if_neg h2] at hle hn
        have h0 : (uA bs pl).c = 0 := by simpa using h1
        refine ⟨(uA bs pl).n,?_,hle,hn⟩
        have ha := ha h0
        revert h0 ha
        generalize uA bs pl = U
        rcases U with ⟨n,c,a,rest,p2⟩
        rintro rfl rfl
        rfl
theorem rnum11_c (q : Nat) (bs : List UInt8) (pl most : Int) (hpl : 0 ≤ pl ∧ pl + bs.length ≤ 1000000) (hm : most ≤ 9223372036854775807) : Ct Tryz.prog 136 #[rdg q,.int .i64 most] [RdB q bs pl,Emp] (RdE (uM most bs pl) q id (fun n : Nat => .int .i64 (n : Int)) NoR Emp) := by
  refine yE (vs := [_,_]) Tryz.func136 rfl Tryz.ntmps136 (by simp) ?_
  rcases numR_cases most bs pl with ⟨c,a,hc,hs,hr⟩ | ⟨n,hu,hn,hr⟩
  · have h1 := sm_bad q bs _ pl _ most c a hpl hm ⟨rfl,rfl⟩ hc hs
    repeat (first|(first|refine zB ?_|refine zE ?_|refine zG ?_)|(first|((first|refine zA rfl ?_);first|refine JO_callFV rfl h1 rfl (fun qf => ?_)|refine zD rfl rfl ?_|refine zC rfl rfl ?_|refine zF rfl rfl ?_|refine zH rfl rfl ?_|refine zT rfl rfl rfl ?_|refine yN rfl rfl (fun r => ?_))))
    refine zA rfl (JO_callPF rfl (wholeI_bad 0 qf) rfl (vG hr))
  · have h1 := sm_ok q bs _ pl _ most n hpl hm hu hn
    have h2 := wholeI_ok (n : Int)
    repeat (first|(first|refine zB ?_|refine zE ?_|refine zG ?_|refine zV ?_)|(first|((first|refine zA rfl ?_);first|refine zD rfl rfl ?_|refine zC rfl rfl ?_|refine zF rfl rfl ?_|refine zH rfl rfl ?_|refine zT rfl rfl rfl ?_|refine yN rfl rfl (fun r => ?_)|refine zN rfl (h1) rfl ?_|refine zR rfl (h2) rfl ?_)))
    exact tN (res_one rfl rfl) hr n rfl rfl (emp_in.trans Ent.sel)
theorem rflag11_c (q : Nat) (bs : List UInt8) (pl : Int) (hpl : 0 ≤ pl ∧ pl + bs.length ≤ 1000000) : Ct Tryz.prog 139 #[rdg q] [RdB q bs pl,Emp] (RdE (flagR bs pl) q id (fun b : Bool => .bool b) NoR Emp) := by
  have c1 := rnum11_c q bs pl 1 hpl (by decide)
  refine yE (vs := [_]) Tryz.func139 rfl Tryz.ntmps139 (by simp) ?_
  repeat (first|(first|refine zB ?_|refine zE ?_|refine zG ?_)|(first|((first|refine zA rfl ?_);first|refine zC rfl rfl ?_|refine zU rfl (by rfl) rfl ?_|refine yN rfl rfl (fun r => ?_))))
  refine zA rfl (wR rfl c1 rfl (fun n bs1 pl1 y g1 hy => ?_) (fun c a qf g1 => vG (by unfold flagR;rw [g1];rfl)))
  obtain rfl : y = n := hy
  by_cases h1 : y = 1
  · subst h1
    repeat (first|(first|refine zE ?_|refine zV ?_)|(first|((first|refine zA rfl ?_);first|refine JOq (yT rfl rfl (by omega)) rfl ?_|refine zC rfl rfl ?_)))
    exact tN (res_one rfl rfl) (show flagR bs pl = .ok true bs1 pl1 by unfold flagR;rw [g1];rfl) true rfl rfl (emp_in.trans Ent.sel)
  · repeat (first|(first|refine zE ?_|refine zV ?_)|(first|((first|refine zA rfl ?_);first|refine JOq (yL rfl rfl (by omega)) rfl ?_|refine zC rfl rfl ?_)))
    exact tN (res_one rfl rfl) (show flagR bs pl = .ok false bs1 pl1 by unfold flagR;rw [g1];simp [h1]) false rfl rfl (emp_in.trans Ent.sel)
theorem redge11_c (q : Nat) (bs : List UInt8) (pl : Int) (hpl : 0 ≤ pl ∧ pl + bs.length ≤ 1000000) : Ct Tryz.prog 138 #[rdg q] [RdB q bs pl,Emp] (RdE (wO bs pl) q id (fun e : Int × Int => .agg (yI e).toArray) NoR Emp) := by
  have c1 := rnum11_c q bs pl 63 hpl (by decide)
  refine yE (vs := [_]) Tryz.func138 rfl Tryz.ntmps138 (by simp) ?_
  repeat (first|(first|refine zB ?_|refine zE ?_|refine zG ?_)|(first|((first|refine zA rfl ?_);first|refine zU rfl (by rfl) rfl ?_|refine yN rfl rfl (fun r => ?_)|refine zS rfl (fun r => ?_))))
  refine zA rfl (wR rfl c1 rfl (fun n bs1 pl1 y g1 hy => ?_) (fun c a qf g1 => vG (by unfold wO;rw [g1];rfl)))
  obtain rfl : y = n := hy
  have p1 := uN _ _ _ _ _ _ g1
  have c2 := rnum11_c q bs1 pl1 1000 (by omega) (by decide)
  repeat (first|(first|refine zB ?_|refine zE ?_|refine zG ?_)|(first|((first|refine zA rfl ?_);first|refine zD rfl rfl ?_|refine zC rfl rfl ?_|refine zU rfl (by rfl) rfl ?_)))
  refine zA rfl (wR rfl c2 rfl (fun n2 bs2 pl2 y2 g2 hy2 => ?_) (fun c a qf g2 => vG (by unfold wO;rw [g1,bind_ok,g2];rfl)))
  obtain rfl : y2 = n2 := hy2
  repeat (first|(first|refine zE ?_|refine zV ?_)|(first|((first|refine zA rfl ?_);first|refine yG (cs := yI ((y : Int),(y2 : Int))) rfl rfl rfl ?_|refine zO rfl rfl (by rfl) (by rfl) (edge_one _) rfl ?_)))
  exact tN (wT rfl rfl rfl) (show wO bs pl = .ok ((y : Int),(y2 : Int)) bs2 pl2 by unfold wO;rw [g1,bind_ok,g2];rfl) _ rfl rfl (emp_in.trans Ent.sel)
theorem rtyp11_c (q : Nat) (bs : List UInt8) (pl : Int) (hpl : 0 ≤ pl ∧ pl + bs.length ≤ 1000000) : Ct Tryz.prog 93 #[rdg q] [RdB q bs pl,Emp] (RdE (wO bs pl) q id (fun e : Int × Int => .agg (yI e).toArray) NoR Emp) := by
  have c1 := rnum11_c q bs pl 63 hpl (by decide)
  refine yE (vs := [_]) Tryz.func93 rfl Tryz.ntmps93 (by simp) ?_
  repeat (first|(first|refine zB ?_|refine zE ?_|refine zG ?_)|(first|((first|refine zA rfl ?_);first|refine zU rfl (by rfl) rfl ?_|refine yN rfl rfl (fun r => ?_)|refine zS rfl (fun r => ?_))))
  refine zA rfl (wR rfl c1 rfl (fun n bs1 pl1 y g1 hy => ?_) (fun c a qf g1 => vG (by unfold wO;rw [g1];rfl)))
  obtain rfl : y = n := hy
  have p1 := uN _ _ _ _ _ _ g1
  have c2 := rnum11_c q bs1 pl1 1000 (by omega) (by decide)
  repeat (first|(first|refine zB ?_|refine zE ?_|refine zG ?_)|(first|((first|refine zA rfl ?_);first|refine zD rfl rfl ?_|refine zC rfl rfl ?_|refine zU rfl (by rfl) rfl ?_)))
  refine zA rfl (wR rfl c2 rfl (fun n2 bs2 pl2 y2 g2 hy2 => ?_) (fun c a qf g2 => vG (by unfold wO;rw [g1,bind_ok,g2];rfl)))
  obtain rfl : y2 = n2 := hy2
  repeat (first|(first|refine zE ?_|refine zV ?_)|(first|((first|refine zA rfl ?_);first|refine yG (cs := yI ((y : Int),(y2 : Int))) rfl rfl rfl ?_|refine zO rfl rfl (by rfl) (by rfl) (edge_one _) rfl ?_)))
  exact tN (wT rfl rfl rfl) (show wO bs pl = .ok ((y : Int),(y2 : Int)) bs2 pl2 by unfold wO;rw [g1,bind_ok,g2];rfl) _ rfl rfl (emp_in.trans Ent.sel)
theorem rend11_c (q : Nat) (bs : List UInt8) (pl : Int) : Ct Tryz.prog 89 #[rdg q] [RdB q bs pl,Emp] (RdE (endR bs pl) q id (fun _ : Unit => .tuple #[]) NoR Emp) := by
  refine yE (vs := [_]) Tryz.func89 rfl Tryz.ntmps89 (by simp) ?_
  by_cases h : bs.length = 0
  · obtain rfl := List.length_eq_zero_iff.1 h
    have c1 := end_okB q pl
    have c2 := wholeI_ok 0
    repeat (first|(first|refine zB ?_|refine zE ?_|refine zG ?_)|(first|((first|refine zA rfl ?_);first|refine zF rfl rfl ?_|refine zH rfl rfl ?_|refine yN rfl rfl (fun r => ?_)|refine zN rfl (c1) rfl ?_|refine zR rfl (c2) rfl ?_)))
    exact rdE_end (res_none rfl) (show endR [] pl = .ok () [] pl from rfl) () rfl rfl (emp_in.trans Ent.sel)
  · have c1 := end_longB q bs pl (by omega)
    repeat (first|(first|refine zB ?_|refine zE ?_|refine zG ?_)|(first|((first|refine zA rfl ?_);first|refine JO_callFE rfl c1 rfl (fun qf => ?_)|refine zF rfl rfl ?_|refine zH rfl rfl ?_|refine yN rfl rfl (fun r => ?_))))
    refine zA rfl (JO_callPF rfl (wholeI_bad 0 qf) rfl (vG (by unfold endR;rw [if_neg h])))
end Go.Proofs.YtickblndgihoeaaGreatDoor
