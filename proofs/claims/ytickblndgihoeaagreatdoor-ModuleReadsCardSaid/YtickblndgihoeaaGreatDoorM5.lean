/- Layer 1: calls that hand back a fault; 'told', which leaves the laid variable as it was. -/
import Derived.Test.YtickblndgihoeaaGreatDoorM1
import Derived.Test.YtickblndgihoeaaGreatDoorM4
import Derived.Test.YtickblndgihoeaaGreatDoorM0
import Derived.Deep.Slices
import Derived.ProofKit
import Derived.SizedLaws
import Derived.Test.YtickblndgihoeaaGreatDoorCards
import Derived.Test.YtickblndgihoeaaGreatDoorTie
import Derived.OpenShut
import Derived.ChangeSame
import Derived.ChangeVars
import Derived.JoinedOf
import Derived.RowKit
import Derived.RowKitTokens
import Derived.LaidLaws
import Derived.LaidHandle
import Derived.Stop.Joined
import Derived.SevenTiedAt
import Derived.Handed
import Derived.ChangeMaps5
import Derived.Laws.StructEq
import Derived.OrdersIn
set_option linter.unusedSimpArgs false
namespace Go.Proofs.YtickblndgihoeaaGreatDoor
open Go Go.Sp
section
variable {N : Nat} {rd : Option Nat} {E : Env} {D : List Deferred} {L : List HP} {Q : uF} {next : Env → List Deferred → List HP → Prop}
variable {d : Option Nat} {ty : TypeId} {pos : String} {after : Array Edge} {g : Option (Nat × Bool)}
theorem JO_callFV {x : Value} {code at_ : Int} {L0 K M L1 : List HP} {f : FuncId} [hf : CF Tryz.prog f] {args : Array Operand} {ts : Array TypeId} {vs : List Value} (hx : evs E args.toList = some vs)
    (hc : Ct Tryz.prog f vs.toArray K (FailsV x code at_ L0)) [hs : Sel K L M] [ha : AppH L0 M L1] (hd : dok N d = true) (h : ∀ q,next (put E d (.tuple #[x,xH q])) D (Ft q code at_ :: L1)) : JO Tryz.prog N rd ⟨d,.call ⟨.value (.func f),args,ts⟩,ty,pos,after,g⟩ E D L next Q :=
  JO_call hx hc.use hd (fun _ _ ⟨_,⟨q,he,hL⟩,hL'⟩ => by cases he;rw [hL',hL,List.cons_append,ha.h];exact h q) (fun _ _ ⟨_,⟨_,he,_⟩,_⟩ => by cases he)
theorem JO_callFE {code at_ : Int} {L0 K M L1 : List HP} {f : FuncId} [hf : CF Tryz.prog f] {args : Array Operand} {ts : Array TypeId} {vs : List Value} (hx : evs E args.toList = some vs)
    (hc : Ct Tryz.prog f vs.toArray K (FailsE code at_ L0)) [hs : Sel K L M] [ha : AppH L0 M L1] (hd : dok N d = true) (h : ∀ q,next (put E d (xH q)) D (Ft q code at_ :: L1)) : JO Tryz.prog N rd ⟨d,.call ⟨.value (.func f),args,ts⟩,ty,pos,after,g⟩ E D L next Q :=
  JO_call hx hc.use hd (fun _ _ ⟨_,⟨q,he,hL⟩,hL'⟩ => by cases he;rw [hL',hL,List.cons_append,ha.h];exact h q) (fun _ _ ⟨_,⟨_,he,_⟩,_⟩ => by cases he)
end
def Gl (te : TypeId) (fz : Nat × Nat) : HP := ro 0 (.cells [types 43].toArray te fz)
theorem pers_gl (te : TypeId) (fz : Nat × Nat) : Pers (Gl te fz) := pers_ro _ _
instance (te : TypeId) (fz : Nat × Nat) : PersA (Gl te fz) := ⟨pers_gl te fz⟩
theorem told_faultK (q : Nat) (code at_ : Int) (hc : code ≠ 0) (te : TypeId) (fz : Nat × Nat) : Ct Tryz.prog 32 #[xH q,uC code at_] [Ft q code at_,Gl te fz] (wF (.bool true) [Gl te fz]) :=
  Ct.post (Ct.heap ((Ent.dup (Gl te fz)).trans (Ent.sel (K := [Ft q code at_,Gl te fz,Gl te fz]))) ((told_fault q code at_ hc te fz).frame [Gl te fz])) fun _ _ ⟨_,⟨he,hL⟩,hL'⟩ => ⟨_,Ent.refl _,he,by rw [hL',hL];rfl⟩
end Go.Proofs.YtickblndgihoeaaGreatDoor

/- Layer 1: an error by its fault;the reader's and the document's answers,each by one contract. -/
namespace Go.Proofs.YtickblndgihoeaaGreatDoor
open Go Go.Sp
def Er (v : Value) (c a : Int) : HP := fun h => (c = 0 ∧ a = 0 ∧ v = .nilIface) ∨ (c ≠ 0 ∧ ∃ q : Nat,v = xH q ∧ Ft q c a h)
theorem er_none {L : List HP} : Ent L (Er .nilIface 0 0 :: L) := fun _ _ hs => (hs.add (.inl ⟨rfl,rfl,rfl⟩)).swap
theorem tH {q : Nat} {c a : Int} {L : List HP} (hc : c ≠ 0) : Ent (Ft q c a :: L) (Er (xH q) c a :: L) := fun _ _ hs => (hs.swap.conv fun _ hk => .inr ⟨hc,q,rfl,hk⟩).swap
theorem ent_perm2 {A B : HP} {L : List HP} : Ent (A :: B :: L) (B :: A :: L) := fun F _ hs => hs.perm ((List.Perm.swap _ _ _).cons F)
def byteA (bs : List UInt8) (pl : Int) : UInt8 × Int × Int := match bs with | [] => (0,3,pl) | x :: _ => (x,0,0)
def wX (bs : List UInt8) (pl : Int) : List UInt8 × Int := match bs with | [] => ([],pl) | _ :: r => (r,pl + 1)
def takeA (bs : List UInt8) (pl n : Int) : List UInt8 × Int × Int := if n < 0 then ([],2,pl) else if (bs.length : Int) < n then ([],3,pl) else (bs.take n.toNat,0,0)
def takeR (bs : List UInt8) (pl n : Int) : List UInt8 × Int := if n < 0 then (bs,pl) else if (bs.length : Int) < n then (bs,pl) else (bs.drop n.toNat,pl + n)
def endA (bs : List UInt8) (pl : Int) : Int × Int := if bs.length = 0 then (0,0) else (4,pl)
theorem byte_E (b : Nat) (bs : List UInt8) (pl : Int) (hpl : 0 ≤ pl ∧ pl + 1 ≤ 9223372036854775807) :
    Ct Tryz.prog 99 #[ptr b] [RdB b bs pl] (RetE (fun _ : Value => True) (fun v => .tuple #[.int .u8 (((byteA bs pl).1.toNat : Nat) : Int),v]) (fun v => [Er v (byteA bs pl).2.1 (byteA bs pl).2.2,RdB b (wX bs pl).1 (wX bs pl).2])) := by
  cases bs with
  | nil => exact Ct.post (byte_shortB b pl) fun _ _ ⟨q,he,hL⟩ => ⟨_,by rw [hL];exact tH (by decide),xH q,trivial,he,rfl⟩
  | cons x r => exact Ct.post (byte_B b x r pl hpl) fun _ _ ⟨he,hL⟩ => ⟨_,by rw [hL];exact er_none,.nilIface,trivial,he,rfl⟩
theorem end_E (b : Nat) (bs : List UInt8) (pl : Int) : Ct Tryz.prog 46 #[ptr b] [RdB b bs pl] (RetE (fun _ : Value => True) (fun v => v) (fun v => [Er v (endA bs pl).1 (endA bs pl).2,RdB b bs pl])) := by
  cases bs with
  | nil => exact Ct.post (end_okB b pl) fun _ _ ⟨he,hL⟩ => ⟨_,by rw [hL];exact er_none,.nilIface,trivial,he,rfl⟩
  | cons x r => exact Ct.post (end_longB b (x :: r) pl (by simp)) fun _ _ ⟨q,he,hL⟩ => ⟨_,by rw [hL];exact tH (show (4 : Int) ≠ 0 by decide),xH q,trivial,he,rfl⟩
theorem part_bad (b : Nat) (bs : List UInt8) (pl n : Int) (h : (takeA bs pl n).2.1 ≠ 0) : Ct Tryz.prog 106 #[ptr b,.int .i64 n] [RdB b bs pl] (RetE (fun _ : Value => True) (fun v => .tuple #[.pointer none,v]) (fun v => [Er v (takeA bs pl n).2.1 (takeA bs pl n).2.2,RdB b bs pl])) := by
  unfold takeA at h ⊢
  by_cases h1 : n < 0
  · simp only [h1,if_true]
    exact Ct.post (part_negB b bs pl n h1) fun _ _ ⟨q,he,hL⟩ => ⟨_,by rw [hL];exact tH (by decide),xH q,trivial,he,rfl⟩
  · by_cases h2 : (bs.length : Int) < n
    · simp only [h1,h2,if_true,if_false]
      exact Ct.post (part_shortB b bs pl n h2) fun _ _ ⟨q,he,hL⟩ => ⟨_,by rw [hL];exact tH (by decide),xH q,trivial,he,rfl⟩
    · simp [h1,h2] at h
def DrB (d : Nat) (bs : List UInt8) (pl : Int) : HP := fun h => ∃ x : List UInt8 × Nat × Int,(x.2.1 ≤ x.1.length ∧ bs = x.1.drop x.2.1 ∧ pl = x.2.2 + x.2.1 ∧ 0 ≤ x.2.2 ∧ x.2.2 + x.1.length ≤ 1000000) ∧ Dr d x.1 x.2.1 x.2.2 h
theorem ct_drb {f : FuncId} {args : Array Value} {d : Nat} {bs : List UInt8} {pl : Int} {R : Ending → List HP → Prop}
    (h : ∀ (s : List UInt8) (k : Nat) (bg : Int),k ≤ s.length → bs = s.drop k → pl = bg + k → 0 ≤ bg → bg + s.length ≤ 1000000 → Ct Tryz.prog f args [Dr d s k bg] R) : Ct Tryz.prog f args [DrB d bs pl] R := fun F w hs => by
  obtain ⟨k,⟨a1,b1,c1,d1,e1,⟨⟨s,i,bg⟩,⟨h1,h2,h3,h4,h5⟩,h6⟩,g1⟩,m⟩ := hs.swap
  exact h s i bg h1 h2 h3 h4 h5 F w (Sat.swap ⟨k,⟨a1,b1,c1,d1,e1,h6,g1⟩,m⟩)
theorem drb_close {d : Nat} {bs : List UInt8} {pl : Int} {L : List HP} {s : List UInt8} {k : Nat} {bg at_ : Int} (h0 : at_ = k) (h1 : k ≤ s.length) (h2 : bs = s.drop k) (h3 : pl = bg + k) (h4 : 0 ≤ bg) (h5 : bg + s.length ≤ 1000000) : Ent (Dr d s at_ bg :: L) (DrB d bs pl :: L) := fun _ _ hs => by
  subst h0
  exact (hs.swap.conv fun _ hk => ⟨(s,k,bg),⟨h1,h2,h3,h4,h5⟩,hk⟩).swap
theorem dplace_B (d : Nat) (bs : List UInt8) (pl : Int) : Ct Tryz.prog 75 #[ptr d] [DrB d bs pl] (wF (.int .i64 pl) [DrB d bs pl]) :=
  ct_drb fun s k bg h1 h2 h3 h4 h5 => by
    subst h3
    exact Ct.post (dplace_c d s k bg (by omega)) fun _ _ ⟨he,hL⟩ => ⟨_,by rw [hL];exact drb_close rfl h1 h2 rfl h4 h5,he,rfl⟩
theorem dleft_B (d : Nat) (bs : List UInt8) (pl : Int) : Ct Tryz.prog 162 #[ptr d] [DrB d bs pl] (wF (.int .i64 (bs.length : Int)) [DrB d bs pl]) :=
  ct_drb fun s k bg h1 h2 h3 h4 h5 => by
    have e : (bs.length : Int) = (s.length : Int) - k := by rw [h2,List.length_drop];omega
    rw [e]
    exact Ct.post (dleft_c d s k bg (by omega)) fun _ _ ⟨he,hL⟩ => ⟨_,by rw [hL];exact drb_close rfl h1 h2 h3 h4 h5,he,rfl⟩
theorem dend_B (d : Nat) (bs : List UInt8) (pl : Int) : Ct Tryz.prog 126 #[ptr d] [DrB d bs pl] (wF (uC (endA bs pl).1 (endA bs pl).2) [DrB d bs pl]) :=
  ct_drb fun s k bg h1 h2 h3 h4 h5 => by
    have e : (bs.length : Int) = (s.length : Int) - k := by rw [h2,List.length_drop];omega
    unfold endA
    by_cases h0 : bs.length = 0
    · simp only [h0,if_true]
      exact Ct.post (dend_ok d s k bg (by omega) (by omega)) fun _ _ ⟨he,hL⟩ => ⟨_,by rw [hL];exact drb_close rfl h1 h2 h3 h4 h5,he,rfl⟩
    · simp only [h0,if_false]
      subst h3
      exact Ct.post (dend_long d s k bg (by omega) (by omega) (by omega)) fun _ _ ⟨he,hL⟩ => ⟨_,by rw [hL];exact drb_close rfl h1 h2 rfl h4 h5,he,rfl⟩
theorem dbyte_B (d : Nat) (bs : List UInt8) (pl : Int) : Ct Tryz.prog 123 #[ptr d] [DrB d bs pl] (wF (.tuple #[.int .u8 (((byteA bs pl).1.toNat : Nat) : Int),uC (byteA bs pl).2.1 (byteA bs pl).2.2]) [DrB d (wX bs pl).1 (wX bs pl).2]) :=
  ct_drb fun s k bg h1 h2 h3 h4 h5 => by
    have e : (bs.length : Int) = (s.length : Int) - k := by rw [h2,List.length_drop];omega
    subst h3
    cases bs with
    | nil =>
      simp only [List.length_nil] at e
      exact Ct.post (dbyte_short d s k bg (by omega) (by omega) (by omega)) fun _ _ ⟨he,hL⟩ => ⟨_,by rw [hL];exact drb_close rfl h1 h2 rfl h4 h5,he,rfl⟩
    | cons x r =>
      simp only [List.length_cons] at e
      have h6 : s[k]? = some x := by
        have := congrArg (·[0]?) h2
        simpa using this.symm
      have h7 : r = s.drop (k + 1) := by
        have := congrArg List.tail h2
        simpa [List.tail_drop] using this
      exact Ct.post (dbyte_ok d s k bg x (by omega) h6) fun _ _ ⟨he,hL⟩ => ⟨_,by rw [hL];exact drb_close rfl (by omega) h7 (by show bg + (k : Int) + 1 = bg + ((k + 1 : Nat) : Int);omega) h4 h5,he,rfl⟩
theorem dtake_B (d : Nat) (bs : List UInt8) (pl n : Int) : Ct Tryz.prog 160 #[ptr d,.int .i64 n] [DrB d bs pl] (wF (.tuple #[str (takeA bs pl n).1,uC (takeA bs pl n).2.1 (takeA bs pl n).2.2]) [DrB d (takeR bs pl n).1 (takeR bs pl n).2]) :=
  ct_drb fun s k bg h1 h2 h3 h4 h5 => by
    have e : (bs.length : Int) = (s.length : Int) - k := by rw [h2,List.length_drop];omega
    subst h3
    unfold takeA takeR
    by_cases hn : n < 0
    · simp only [hn,if_true]
      exact Ct.post (dtake_neg d s k bg n (by omega) hn) fun _ _ ⟨he,hL⟩ => ⟨_,by rw [hL];exact drb_close rfl h1 h2 rfl h4 h5,he,rfl⟩
    · by_cases hm : (bs.length : Int) < n
      · simp only [hn,hm,if_true,if_false]
        exact Ct.post (dtake_short d s k bg n (by omega) (by omega) (by omega) (by omega)) fun _ _ ⟨he,hL⟩ => ⟨_,by rw [hL];exact drb_close rfl h1 h2 rfl h4 h5,he,rfl⟩
      · simp only [hn,hm,if_false]
        obtain ⟨m,rfl⟩ : ∃ m : Nat,n = (m : Int) := ⟨n.toNat,by omega⟩
        rw [Int.toNat_natCast]
        have e2 : bs.take m = (s.take (k + m)).drop k := by rw [h2,List.drop_take];congr 1;omega
        rw [e2]
        exact Ct.post (dtake_ok d s k bg m h1 (by omega) (by omega)) fun _ _ ⟨he,hL⟩ => ⟨_,by rw [hL];exact drb_close (k := k + m) rfl (by omega) (by rw [h2,List.drop_drop]) (by omega) h4 h5,he,rfl⟩
theorem dpart_bad (d : Nat) (bs : List UInt8) (pl n : Int) (h : (takeA bs pl n).2.1 ≠ 0) : Ct Tryz.prog 125 #[ptr d,.int .i64 n] [DrB d bs pl] (wF (.tuple #[.pointer none,uC (takeA bs pl n).2.1 (takeA bs pl n).2.2]) [DrB d bs pl]) :=
  ct_drb fun s k bg h1 h2 h3 h4 h5 => by
    have e : (bs.length : Int) = (s.length : Int) - k := by rw [h2,List.length_drop];omega
    subst h3
    unfold takeA at h ⊢
    by_cases hn : n < 0
    · simp only [hn,if_true]
      exact Ct.post (dpart_fails d s k bg n 2 (by omega) (by decide) (dtake_neg d s k bg n (by omega) hn)) fun _ _ ⟨he,hL⟩ => ⟨_,by rw [hL];exact drb_close rfl h1 h2 rfl h4 h5,he,rfl⟩
    · by_cases hm : (bs.length : Int) < n
      · simp only [hn,hm,if_true,if_false]
        exact Ct.post (dpart_fails d s k bg n 3 (by omega) (by decide) (dtake_short d s k bg n (by omega) (by omega) (by omega) (by omega))) fun _ _ ⟨he,hL⟩ => ⟨_,by rw [hL];exact drb_close rfl h1 h2 rfl h4 h5,he,rfl⟩
      · simp [hn,hm] at h
end Go.Proofs.YtickblndgihoeaaGreatDoor

/- What a call is handed,as frozen rows;what it leaves. -/
namespace Go.Sp
open Go.RowKit
theorem list_pick {α β γ : Type} (f : β → α) (R : γ → β → Prop) : ∀ (cs : List α) (ds : List γ),cs.length = ds.length → (∀ (i : Nat) (c : α) (d : γ),cs[i]? = some c → ds[i]? = some d → ∃ y,c = f y ∧ R d y) →
    ∃ ys : List β,cs = ys.map f ∧ ∀ (i : Nat) (y : β) (d : γ),ys[i]? = some y → ds[i]? = some d → R d y
  | [],[],_,_ => ⟨[],rfl,fun i y d h => by simp at h⟩
  | [],_ :: _,h,_ => by simp at h
  | _ :: _,[],h,_ => by simp at h
  | c :: cs,d :: ds,hl,h => by
    obtain ⟨y,h1,h2⟩ := h 0 c d rfl rfl
    obtain ⟨ys,h3,h4⟩ := list_pick f R cs ds (by simpa using hl) (fun i c' d' hc hd => h (i + 1) c' d' (by simpa using hc) (by simpa using hd))
    refine ⟨y :: ys,by rw [List.map_cons,← h1,← h3],fun i y' d' hy hd => ?_⟩
    cases i with
    | zero => simp at hy hd;subst hy;subst hd;exact h2
    | succ i => exact h4 i y' d' (by simpa using hy) (by simpa using hd)
section
variable {H : Type} {enc : TypeId × Value → H} {P : Program} {W : World} {base : Nat} {sp : Nat → Bool} {held : Bool}
theorem cells_get {a : Addr} : ∀ {n : Nat} {cs : List Value},W.cells? base a n = some cs → cs.length = n ∧ ∀ i u,cs[i]? = some u → W.cell? (a.add i) = some u := by
  intro n cs h
  unfold World.cells? at h
  split at h
  · refine ⟨by simpa using mapM_some_length h,fun i u hu => ?_⟩
    have hi : i < n := by have h1 := mapM_some_length h;have h2 := (List.getElem?_eq_some_iff.1 hu).1;simp at h1;omega
    have := mapM_some_get h i i (by simp [hi])
    rw [this,hu]
  · cases h
theorem read_slice {t e : TypeId} {sz n : Nat} {cs : List Value} {x : DataW H × List MemPlace} (ht : P.underlying t = some (.slice e)) (hc : P.cellsOf e = sz) (hz : 0 < sz) (h : DataW.trod enc P W base sp held n t cs = some x) :
    ∃ (p : Option Addr) (len cap : Nat) (css : List (List Value)) (Ds : List (DataW H)),cs = [.slice p len cap] ∧ css.length = len ∧ Ds.length = len ∧ len ≤ maxLen ∧ len ≤ cap ∧ (∀ k,Base W k → Vw sz (.slice p len cap) len css.flatten k) ∧
      (∀ (i : Nat) (c : List Value) (D : DataW H),css[i]? = some c → Ds[i]? = some D → c.length = sz ∧ ∃ m q,DataW.trod enc P W base sp held m e c = some (D,q)) ∧ (x.1 = .nil ∧ Ds = [] ∨ ∃ spare,x.1 = .slice Ds spare) := by
  rcases Go.Deep.open_slice ht h with ⟨h1,h2⟩ | ⟨a,len,cap,m,n',D,Pl,h1,_,hle,hcap,hm,h2,h3⟩
  · refine ⟨none,0,0,[],[],h1,rfl,rfl,Nat.zero_le _,Nat.zero_le _,fun k _ => ⟨by simp,Nat.zero_le _,none,0,rfl,.inl rfl⟩,fun i c D hc' => by simp at hc',.inl ⟨by rw [h2],rfl⟩⟩
  · have hlm : len ≤ m := by rw [hm];split <;> omega
    have hch : ∀ i,∃ c : List Value,c.length = sz ∧ (i < len → W.cells? base (a.add (i * sz)) sz = some c ∧ DataW.trod enc P W base sp held n' e c = some (D i,Pl i)) := by
      intro i
      by_cases hi : i < len
      · obtain ⟨c,hc1,hc2⟩ := h3 i (by omega)
        rw [hc] at hc1
        exact ⟨c,(cells_get hc1).1,fun _ => ⟨hc1,hc2⟩⟩
      · exact ⟨List.replicate sz undef,by simp,fun h => absurd h hi⟩
    obtain ⟨C,hC⟩ := Classical.axiomOfChoice hch
    refine ⟨some a,len,cap,(List.range len).map C,(List.range len).map D,h1,by simp,by simp,by omega,hle,fun k hk => ?_,fun i c d hc' hd => ?_,.inr ⟨_,by rw [h2]⟩⟩
    · have hlen : ((List.range len).map C).flatten.length = len * sz := by
        rw [← List.flatMap_def,length_flat (fun x => (hC x).1)];simp
      refine ⟨hlen,by omega,_,_,rfl,?_⟩
      by_cases h0 : len = 0
      · exact .inl h0
      · right
        obtain ⟨hb,_⟩ := (hC 0).2 (by omega)
        have hcell : ∀ i u,((List.range len).map C).flatten[i]? = some u → W.cell? (a.add i) = some u := by
          intro i u hu
          have hi : i < len * sz := by rw [← hlen];exact (List.getElem?_eq_some_iff.1 hu).1
          have hj : i / sz < len := (Nat.div_lt_iff_lt_mul hz).2 hi
          have hr : i % sz < sz := Nat.mod_lt _ hz
          have e1 : i = i / sz * sz + i % sz := by rw [Nat.mul_comm];exact (Nat.div_add_mod i sz).symm
          have hg := yY (f := C) (fun x => (hC x).1) (List.range len) (i / sz) (i % sz) (i / sz) hr (by simp [hj])
          rw [← List.flatMap_def] at hu
          rw [e1,hg] at hu
          have := (cells_get ((hC (i / sz)).2 hj).1).2 _ _ hu
          rw [e1]
          have e2 : (a.add (i / sz * sz)).add (i % sz) = a.add (i / sz * sz + i % sz) := by
            unfold Addr.add
            by_cases hA : i / sz * sz = 0 <;> by_cases hB : i % sz = 0 <;> simp [hA,hB] <;> omega
          rw [← e2];exact this
        have hne : ((List.range len).map C).flatten[0]? ≠ none := by
          rw [Ne,List.getElem?_eq_none_iff,hlen]
          have : 0 < len * sz := Nat.mul_pos (by omega) hz
          omega
        obtain ⟨u0,hu0⟩ := Option.ne_none_iff_exists'.1 hne
        have hA := hcell 0 u0 hu0
        obtain ⟨b,o,s⟩ := a
        have e0 : (⟨b,o,s⟩ : Addr).add 0 = ⟨b,o,s⟩ := by simp [Addr.add]
        rw [e0] at hA
        unfold World.cell? at hA
        split at hA
        · rename_i c ty fz hbk
          have hs : s = none := by
            cases s with
            | none => rfl
            | some _ => simp at hA
          subst hs
          refine ⟨b,o,c.toList,ty,fz,rfl,by simpa using hk.1 _ _ hbk,fun i u hu => ?_⟩
          have h4 := hcell i u hu
          rw [addr_add] at h4
          unfold World.cell? at h4
          simp only [hbk] at h4
          simpa using h4
        · cases hA
    · have hi : i < len := by have := (List.getElem?_eq_some_iff.1 hc').1;simpa using this
      simp [hi] at hc' hd
      subst hc';subst hd
      exact ⟨(hC i).1,_,_,((hC i).2 hi).2⟩
theorem read_int {t : TypeId} {k : IntKind} {n : Nat} {cs : List Value} {x : DataW H × List MemPlace} (ht : P.underlying t = some (.int k)) (h : DataW.trod enc P W base sp held n t cs = some x) : ∃ z : Int,cs = [.int k z] ∧ x.1 = .lit (.int k z) ∧ (Lit.int k z).wf = true := by
  obtain ⟨z,h1,h2,h3⟩ := DataW.trod_int ht h
  exact ⟨z,h1,by rw [h2],h3⟩
theorem read_ints {t e : TypeId} {k : IntKind} {n : Nat} {cs : List Value} {x : DataW H × List MemPlace} (ht : P.underlying t = some (.slice e)) (he : P.underlying e = some (.int k)) (hc : P.cellsOf e = 1) (h : DataW.trod enc P W base sp held n t cs = some x) :
    ∃ (p : Option Addr) (cap : Nat) (zs : List Int) (Ds : List (DataW H)),cs = [.slice p zs.length cap] ∧ Ds.length = zs.length ∧ zs.length ≤ maxLen ∧ zs.length ≤ cap ∧ (∀ q,Base W q → Vw 1 (.slice p zs.length cap) zs.length (zs.map (.int k)) q) ∧ (∀ z ∈ zs,(Lit.int k z).wf = true) ∧
      (x.1 = .nil ∧ Ds = [] ∨ ∃ spare,x.1 = .slice Ds spare) := by
  obtain ⟨p,len,cap,css,Ds,h1,h2,h3,h4,h4',h5,h6,h7⟩ := read_slice ht hc (by decide) h
  obtain ⟨zs,hz,hw⟩ := list_pick (fun z : Int => [Value.int k z]) (fun _ z => (Lit.int k z).wf = true) css Ds (by omega) (fun i c D hc' hd => by
    obtain ⟨_,m,q,hq⟩ := h6 i c D hc' hd
    obtain ⟨z,h8,_,h9⟩ := read_int he hq
    exact ⟨z,h8,h9⟩)
  have hl : zs.length = len := by rw [← h2,hz];simp
  subst hl
  refine ⟨p,cap,zs,Ds,h1,h3,h4,h4',fun q hq => ?_,fun z hz' => ?_,h7⟩
  · have := h5 q hq
    rw [hz] at this
    have e : (zs.map fun z : Int => [Value.int k z]).flatten = zs.map (.int k) := by
      clear this hz hw h5 h6 h4 h4' h3 h2 h1
      induction zs with
      | nil => rfl
      | cons z zs ih => simp [ih]
    rw [e] at this
    exact this
  · obtain ⟨i,hi,rfl⟩ := List.mem_iff_getElem.1 hz'
    exact hw i _ _ (List.getElem?_eq_getElem hi) (List.getElem?_eq_getElem (show i < Ds.length by omega))
end
theorem below_of_base {w W : World} {L : List HP} (h : Sat w (Base W :: L)) : Below W.heap.size W w := by
  obtain ⟨h1,h2,h3,h4⟩ := h.base
  refine ⟨h2,h3,h4,?_,fun k hk => ?_⟩
  · by_cases h0 : W.heap.size = 0
    · omega
    · have e := Array.getElem?_eq_getElem (show W.heap.size - 1 < W.heap.size by omega)
      have := (Array.getElem?_eq_some_iff.1 (h1 _ _ e)).1
      omega
  · have e := Array.getElem?_eq_getElem hk
    rw [e]
    exact h1 k _ e
section
variable {H : Type} {enc : TypeId × Value → H} {P : Program}
theorem trodAll_stays (hl : laidOutB P = true) {W W' : World} (hb : Below W.heap.size W W') : ∀ {ts : List TypeId} {vs : List Value} {ds : List (DataW H)} {ps : List MemPlace},(∀ t ∈ ts,P.readableRec t = true ∧ t < P.types.size) →
    DataW.TrodAll enc P W 0 (fun _ => true) true ts vs ds ps → (∀ x ∈ ps,x.block < W.heap.size) → DataW.TrodAll enc P W' 0 (fun b => decide (b < W.heap.size)) true ts vs ds ps
  | [],[],[],_,_,h,_ => h
  | t :: ts,v :: vs,d :: ds,ps,hr,h,hp => by
    obtain ⟨p,q,h1,h2,rfl⟩ := h
    exact ⟨p,q,Below.trod hl (hr t (by simp)).1 (hr t (by simp)).2 h1 hb (fun x hx => hp x (by simp [hx])),trodAll_stays hl hb (fun t ht => hr t (by simp [ht])) h2 (fun x hx => hp x (by simp [hx])),rfl⟩
  | [],_ :: _,_,_,_,h,_ => h.elim
  | [],[],_ :: _,_,_,h,_ => h.elim
  | _ :: _,[],_,_,_,h,_ => h.elim
  | _ :: _,_ :: _,[],_,_,h,_ => h.elim
theorem post_true {f : Func} {s : ChangeSpec} {apart handsOn : Bool} {W W' : World} {args : Array Value} {ds gs : List (DataW H)} {before : List MemPlace} {t : TypeId} (hl : laidOutB P = true) (hr : ∀ t ∈ f.params.toList,P.readableRec t = true ∧ t < P.types.size)
    (hW : DataW.Whole enc P f.params.toList s.vars apart W args.toList ds gs before) (hb : Below W.heap.size W W') (hv : s.vars = []) (hs : s.fn H (ds ++ gs) = { results := [.lit (.bool true)],args := ds }) (ht : f.resultTypes = #[t]) (hu : P.underlying t = some .bool) :
    s.post enc P f apart true handsOn false W args (.bool true) W' := by
  have hW' := hW
  obtain ⟨p,q,h1,h2,rfl,_,_⟩ := hW
  rw [hv] at h2
  have hq : q = [] := by
    cases gs with
    | nil => exact h2
    | cons _ _ => exact h2.elim
  subst hq
  rw [List.append_nil] at hW'
  have h3 := trodAll_stays hl hb hr h1 (fun x hx => hW'.lt x hx)
  refine ⟨ds,gs,p,[],p,[],hW',?_,?_,?_,Below.frame hb _,fun h => by cases h⟩
  · rw [hs,ht]
    exact ⟨[],[],⟨1,by simp [DataW.trod,hu,Value.cells]⟩,rfl,rfl⟩
  · rw [hs];exact h3
  · rw [hs,hv];rfl
end
theorem base_all {W : World} : ∀ {L : List HP},(∀ A ∈ L,∀ k,Base W k → A k) → Sat W (Base W :: L)
  | [],_ => sat_base W
  | A :: L,h => by
    have h1 : Sat W (Base W :: Base W :: L) := (base_all (L := L) (fun B hB => h B (by simp [hB]))).dup (pers_base W)
    exact (h1.conv (fun k hk => h A (by simp) k hk)).swap
theorem row_of_ct {P : Program} {f : FuncId} {args : Array Value} {W : World} {v : Value} {L : List HP} (hc : Ct P f args L (wF v [])) (hL : ∀ A ∈ L,∀ k,Base W k → A k) : Calls P f args W fun e W' => e = .returned v ∧ Below W.heap.size W W' :=
  (hc (Base W) W (base_all hL)).mono fun _ _ ⟨_,_,⟨he,hl⟩,hs⟩ => ⟨he,below_of_base (by rw [hl] at hs;exact hs)⟩
end Go.Sp

/- What the laid variable gives;a world that meets the condition. -/
namespace Go.Proofs.YtickblndgihoeaaGreatDoor
open Go Go.Sp Go.ChangeShapes Go.WideShapes Go.ChangeAt Go.RowKit
theorem own_ : ownKnob Tryz.prog.godebug = none := by kernel_rfl
theorem laidOut_ : laidOutB Tryz.prog = true := by kernel_rfl
theorem et_ : Tryz.prog.globalNamed "errors.errorType" = some 0 := by kernel_rfl
theorem rt_ : (Tryz.prog.cutTypes.find? (·.1 == "internal/reflectlite.rtype")).map (·.2) = some 197 := by kernel_rfl
theorem oneRow_ : ((List.range Tryz.prog.types.size).filter fun t => Tryz.prog.rowNamed t [101,114,114,111,114]) = [43] := by kernel_rfl
abbrev laid_ : List (String × DataW Unit) := [("errors.errorType", Rows.laid_errors_errorType)]
theorem gl_of_laid {W : World} (h : laidMetH Tryz.prog laid_ W) : ∃ te fz,∀ k,Base W k → Gl te fz k := by
  have h' : laidMet Tryz.prog [] W ∧ handlesMet Tryz.prog laid_ W := h
  obtain ⟨name,u,ty,e1,e2,e3,e4,e5⟩ := h'.2 _ (List.mem_singleton.2 rfl)
  have en : name = [101,114,114,111,114] := (Option.some.inj e1).symm
  subst en
  obtain rfl := Option.some.inj (rt_.symm.trans e2)
  have hm : ty ∈ (List.range Tryz.prog.types.size).filter fun t => Tryz.prog.rowNamed t [101,114,114,111,114] := List.mem_filter.2 ⟨List.mem_range.2 e3,e4⟩
  rw [oneRow_] at hm
  obtain rfl := List.mem_singleton.1 hm
  have hh : typeHandle Tryz.prog 43 = .pointer (some ⟨1,43,none⟩) := by kernel_rfl
  rw [hh] at e5
  simp only [World.var?,et_,Option.bind_some] at e5
  split at e5
  · rename_i cs te fz hb
    cases e5
    exact ⟨te,fz,fun k hk => hk.1 _ _ hb⟩
  · cases e5
noncomputable def laidWorld (os : Os) : World :=
  let w0 := World.holding Tryz.prog os ⟨#[],#[],[]⟩
  { w0 with heap := w0.heap.modify 0 fun
      | .cells _ t frozen => .cells #[types 43] t frozen
      | o => o }
theorem laidWorld_met (os : Os) (args : Array Value) : laidMetH Tryz.prog laid_ ((laidWorld os).forCall (fun _ _ => 0) ⟨#[],args,[]⟩).memory :=
  laidMetH_of_parts (laidMet_nil _ _) (by kernel_rfl)
end Go.Proofs.YtickblndgihoeaaGreatDoor

/- Drawn regions: whatever may come up now alone,by any rule of operations;the first part of a text. -/
namespace Go.Sp
open Go.RowKit
def onlyR (ops : Array Oper) (ls : List Bool) : List Nat → Option Nat
  | [] => none
  | i :: r => match rdy ops ls i with
    | true => match orL (rdy ops ls) r with | true => none | false => some i
    | false => onlyR ops ls r
theorem onlyR_filter {ops : Array Oper} {ls : List Bool} {i : Nat} : ∀ {l : List Nat},onlyR ops ls l = some i → l.filter (rdy ops ls) = [i] := by
  intro l
  induction l with
  | nil => intro h;cases h
  | cons j r ih =>
    intro h
    simp only [onlyR] at h
    split at h
    · rename_i hj
      split at h
      · cases h
      · rename_i hn
        cases h
        rw [List.filter_cons,hj]
        simp only [if_true,List.cons.injEq,true_and]
        rw [orL_eq,List.any_eq_false] at hn
        rw [List.filter_eq_nil_iff]
        exact hn
    · rename_i hj
      rw [List.filter_cons,hj]
      exact ih h
theorem onlyR_ready {ops : Array Oper} {ls : List Bool} {i : Nat} (h : onlyR ops ls (idxs ops.toList 0) = some i) : Region.ready .any ops ls.toArray = [i] := by
  rw [rdy_eq,idxs_range]
  exact onlyR_filter h
def gokL (ops : Array Oper) (E : Env) : Option (Nat × Bool) → Bool
  | none => true
  | some (j,w) => match gval ops E j with | some b => b == w | none => false
section
variable {P : Program} {N : Nat} {E : Env} {D : List Deferred} {L L0 : List HP} {Q : uF}
theorem want_ok {ops : Array Oper} {o : Oper} (h : gokL ops E o.guard = true) (a : Act) (hr : Rep N E D a) : Region.wanted o (yielded ops a.tmps) = true := by
  cases hg : o.guard with
  | none => simp [Region.wanted,hg]
  | some x =>
    obtain ⟨j,w⟩ := x
    rw [hg] at h
    simp only [gokL] at h
    split at h
    · rename_i b hb
      have : b = w := by simpa using h
      subst this
      simp [Region.wanted,hg,yielded_of hr hb]
    · cases h
def Tame (P : Program) (o : Oper) : Prop := ∀ (a : Act) (w : World),match (execOp a.eval o).run P w with
  | .ok (.value _) _ | .ok .skip _ | .ok (.enter _ _) _ | .halt (.panic _) _ => True
  | _ => False
theorem JG_jo {ops : Array Oper} {fuel : Nat} {ls : List Bool} {i : Nat} {o : Oper} (hn : onlyR ops ls (idxs ops.toList 0) = some i) (ho : ops.toList[i]? = some o) (hg : gokL ops E o.guard = true) (ht : Tame P o)
    (h : JO P N none o E D L (fun E' D' L' => Ent L' L0 ∧ JG P N ops fuel (ls.set i true) E' D' L' L0 Q) Q) : JG P N ops (fuel + 1) ls E D L L0 Q := by
  intro F a w hrep hsat
  have hw := want_ok (o := o) hg a hrep
  rw [Array.getElem?_toList] at ho
  refine wpAnyH_all (onlyR_ready hn) (by simp) fun k hk => ?_
  simp only [List.mem_singleton] at hk
  subst hk
  simp only [wpOp,ho,hw,if_true]
  refine .inl ?_
  have h1 := (h F a w hrep hsat (fun a' w' => Sat w' (F :: L0) ∧ wpAnyH P .any ops (lift N F Q) (fun w => Sat w (F :: L0)) fuel (ls.toArray.setIfInBounds k true) a' w') (fun E' D' L' a' w' hn hr' hs' => ⟨hn.1 F w' hs',by
    rw [List.setIfInBounds_toArray]
    exact hn.2 F a' w' hr' hs'⟩)).2
  rw [show (FW none).round = none from rfl,Oper.semAt_none] at h1
  have ht1 := ht a w
  unfold Oper.wp
  cases hres : (execOp a.eval o).run P w with
  | ok n w' =>
    rw [hres] at h1 ht1
    cases n with
    | value v => exact h1
    | skip => exact h1
    | enter f args =>
      rw [Oper.uponIn_enter] at h1
      rw [Oper.upon_enter]
      exact callsIn_wide.1 h1.2
    | _ => exact ht1.elim
  | halt z w' =>
    rw [hres] at h1 ht1
    cases z <;> first|exact h1|exact ht1.elim
section
variable {d : Option Nat} {ty : TypeId} {pos : String} {after : Array Edge} {g : Option (Nat × Bool)}
theorem uX {f : FuncId} [hf : CF P f] {args : Array Operand} {ts : Array TypeId} : Tame P ⟨d,.call ⟨.value (.func f),args,ts⟩,ty,pos,after,g⟩ := fun a w => by
  have e : (execOp a.eval ⟨d,.call ⟨.value (.func f),args,ts⟩,ty,pos,after,g⟩).run P w = .ok (.enter f (args.map a.eval)) w := by simp [execOp,resolve,Act.eval,Deferred.ofValue,invoke,hf.h]
  rw [e]
  trivial
theorem JQ_headS {t : TypeId} [TU P t .string] {x hi : Operand} {bs : List UInt8} {h : Nat} {ik : IntKind} (hx : ev E x = some (str bs)) (hh : ev E hi = some (.int ik (h : Int))) (h2 : h ≤ bs.length) :
    JQ P N ⟨d,.slice t x none (some hi) none,ty,pos,after,g⟩ E D L (str (bs.take h)) := fun F a hr w hs => by
  have h5 : (Instr.sliceAt t (str bs) none (some (.int ik (h : Int))) none).run P w = (Instr.slice t (str bs) none (some (.int ik (h : Int))) none).run P w := by simp [Instr.sliceAt,yM (TU.h (P := P) (t := t))]
  have h6 : (⟨bs.toArray⟩ : ByteArray).extract 0 h = ⟨(bs.take h).toArray⟩ := by rw [extract_str,List.drop_zero]
  simp [execOp,hr.eval hx,hr.eval hh,h5,Instr.slice,Instr.sliceBounds,yM (TU.h (P := P) (t := t)),size_str,run_sliceBound _ ik (h : Int) bs.length _ (by omega) (by omega),h6]
end
end
end Go.Sp

/- Texts: length,comparison,sums;the lesser of two lengths. -/
namespace Go.Sp
open Go.RowKit
section
variable {P : Program} {N : Nat} {rd : Option Nat} {E : Env} {D : List Deferred} {L : List HP} {Q : uF} {next : Env → List Deferred → List HP → Prop}
variable {d : Option Nat} {ty : TypeId} {pos : String} {after : Array Edge} {g : Option (Nat × Bool)}
theorem JQ_lenB {x : Operand} {t : TypeId} [TU P t .string] {bs : List UInt8} (hx : ev E x = some (str bs)) : JQ P N ⟨d,.call ⟨.builtin .len,#[x],#[t]⟩,ty,pos,after,g⟩ E D L (.int .i64 (bs.length : Int)) := by
  have := JQ_lenS (P := P) (N := N) (E := E) (D := D) (L := L) (d := d) (ty := ty) (pos := pos) (after := after) (g := g) (t := t) hx
  rw [size_str] at this
  exact this
theorem JQ_eqS {x y : Operand} {t u : TypeId} {a b : List UInt8} (hx : ev E x = some (str a)) (hy : ev E y = some (str b)) : JQ P N ⟨d,.binOp .eql t x y u,ty,pos,after,g⟩ E D L (.bool (decide (a = b))) := fun F ac hr w hs => by
  have h : (a == b) = decide (a = b) := by by_cases h : a = b <;> simp [h]
  simp [execOp,hr.eval hx,hr.eval hy,eqGuard,binOp_string_eql,h]
theorem JQ_neS {x y : Operand} {t u : TypeId} {a b : List UInt8} (hx : ev E x = some (str a)) (hy : ev E y = some (str b)) : JQ P N ⟨d,.binOp .neq t x y u,ty,pos,after,g⟩ E D L (.bool (decide (a ≠ b))) := fun F ac hr w hs => by
  have h : (!(a == b)) = decide (a ≠ b) := by by_cases h : a = b <;> simp [h]
  simp [execOp,hr.eval hx,hr.eval hy,eqGuard,binOp_string_neq,h]
theorem JQ_neS0 {x y : Operand} {t u : TypeId} {a : List UInt8} (hx : ev E x = some (str a)) (hy : ev E y = some (str a)) : JQ P N ⟨d,.binOp .neq t x y u,ty,pos,after,g⟩ E D L (.bool false) := by
  have := JQ_neS (P := P) (N := N) (D := D) (L := L) (d := d) (ty := ty) (pos := pos) (after := after) (g := g) (t := t) (u := u) hx hy
  simpa using this
theorem JQ_eqS0 {x y : Operand} {t u : TypeId} {a : List UInt8} (hx : ev E x = some (str a)) (hy : ev E y = some (str a)) : JQ P N ⟨d,.binOp .eql t x y u,ty,pos,after,g⟩ E D L (.bool true) := by
  have := JQ_eqS (P := P) (N := N) (D := D) (L := L) (d := d) (ty := ty) (pos := pos) (after := after) (g := g) (t := t) (u := u) hx hy
  simpa using this
theorem uJ {x : Operand} {t u : TypeId} {ms : Array (String × TypeId)} [TU P t (.interface ms)] (hx : ev E x = some .nilIface) : JQ P N ⟨d,.binOp .neq t x (.const .nilIface) u,ty,pos,after,g⟩ E D L (.bool false) := fun F a hr w hs => by
  have h3 : a.eval (.const .nilIface) = .nilIface := rfl
  simp [execOp,hr.eval hx,h3,eqGuard,binOp,run_eqI (P := P) (t := t) .nilIface (.inl rfl) w,isNilI]
theorem JQ_neIf1 {x : Operand} {t u s : TypeId} {v : Value} {ms : Array (String × TypeId)} [TU P t (.interface ms)] (hx : ev E x = some (.iface s v)) : JQ P N ⟨d,.binOp .neq t x (.const .nilIface) u,ty,pos,after,g⟩ E D L (.bool true) := fun F a hr w hs => by
  have h3 : a.eval (.const .nilIface) = .nilIface := rfl
  simp [execOp,hr.eval hx,h3,eqGuard,binOp,run_eqI (P := P) (t := t) (.iface s v) (.inr ⟨s,v,rfl⟩) w,isNilI]
theorem JQ_eqIF {x y : Operand} {k : IntKind} {t u : TypeId} {m n : Int} (hx : ev E x = some (.int k m)) (hy : ev E y = some (.int k n)) (h : m ≠ n) : JQ P N ⟨d,.binOp .eql t x y u,ty,pos,after,g⟩ E D L (.bool false) := by
  have := JQ_eqI (P := P) (N := N) (D := D) (L := L) (d := d) (ty := ty) (pos := pos) (after := after) (g := g) (t := t) (u := u) hx hy
  rw [decide_eq_false h] at this
  exact this
theorem JQ_neI0 {x y : Operand} {k : IntKind} {t u : TypeId} {m : Int} (hx : ev E x = some (.int k m)) (hy : ev E y = some (.int k m)) : JQ P N ⟨d,.binOp .neq t x y u,ty,pos,after,g⟩ E D L (.bool false) := by
  have := JQ_neI (P := P) (N := N) (D := D) (L := L) (d := d) (ty := ty) (pos := pos) (after := after) (g := g) (t := t) (u := u) hx hy
  simpa using this
theorem uQ {x y : Operand} {t u : TypeId} {a b : List UInt8} (hx : ev E x = some (str a)) (hy : ev E y = some (str b)) (hb : a.length + b.length ≤ 9223372036854775807) : JQ P N ⟨d,.binOp .add t x y u,ty,pos,after,g⟩ E D L (str (a ++ b)) := fun F ac hr w hs => by
  have h1 : ¬ ((((⟨a.toArray⟩ : ByteArray).size + (⟨b.toArray⟩ : ByteArray).size : Nat) : Int) > IntKind.i64.max) := by
    rw [size_str,size_str]
    have : IntKind.i64.max = 9223372036854775807 := by decide
    omega
  have h2 : (⟨a.toArray⟩ : ByteArray) ++ ⟨b.toArray⟩ = ⟨(a ++ b).toArray⟩ := by
    apply ByteArray.ext
    simp
  simp only [execOp,hr.eval hx,hr.eval hy,eqGuard,binOp_string_add,Op.stringOp,h1,if_false,h2]
  simp
theorem JQ_minN {x y : Operand} {ts : Array TypeId} {m n : Nat} (hx : ev E x = some (.int .i64 (m : Int))) (hy : ev E y = some (.int .i64 (n : Int))) : JQ P N ⟨d,.call ⟨.builtin .min,#[x,y],ts⟩,ty,pos,after,g⟩ E D L (.int .i64 ((min m n : Nat) : Int)) := fun F a hr w hs => by
  have h1 : (if n < m then (n : Int) else (m : Int)) = ((min m n : Nat) : Int) := by split <;> omega
  simp [execOp,resolve,invoke,builtin,hr.eval hx,hr.eval hy,run_min_int2,h1]
end
end Go.Sp

/- Arguments as frozen rows,whatever their elements. -/
namespace Go.Sp
open Go.RowKit
section
variable {H : Type} {enc : TypeId × Value → H} {P : Program} {W : World} {base : Nat} {sp : Nat → Bool} {held : Bool}
theorem read_row {β : Type} {t e : TypeId} {sz n : Nat} {cs : List Value} {x : DataW H × List MemPlace} (f : β → List Value) (R : β → Prop) (ht : P.underlying t = some (.slice e)) (hc : P.cellsOf e = sz) (hz : 0 < sz)
    (hel : ∀ (m : Nat) (c : List Value) (y : DataW H × List MemPlace),c.length = sz → DataW.trod enc P W base sp held m e c = some y → ∃ b,c = f b ∧ R b) (h : DataW.trod enc P W base sp held n t cs = some x) :
    ∃ (p : Option Addr) (cap : Nat) (ys : List β),cs = [.slice p ys.length cap] ∧ ys.length ≤ cap ∧ ys.length ≤ maxLen ∧ (∀ y ∈ ys,R y) ∧ ∀ k,Base W k → Vw sz (.slice p ys.length cap) ys.length (ys.flatMap f) k := by
  obtain ⟨p,len,cap,css,Ds,h1,h2,h3,h4,h4',h5,h6,h7⟩ := read_slice ht hc hz h
  obtain ⟨ys,hy,hw⟩ := list_pick f (fun _ b => R b) css Ds (by omega) (fun i c D hc' hd => by
    obtain ⟨hl,m,q,hq⟩ := h6 i c D hc' hd
    exact hel m c _ hl hq)
  have hl : ys.length = len := by rw [← h2,hy];simp
  subst hl
  refine ⟨p,cap,ys,h1,h4',h4,fun y hy' => ?_,fun q hq => ?_⟩
  · obtain ⟨i,hi,rfl⟩ := List.mem_iff_getElem.1 hy'
    exact hw i _ (Ds[i]'(by omega)) (List.getElem?_eq_getElem hi) (List.getElem?_eq_getElem (by omega))
  · have := h5 q hq
    rw [hy,← List.flatMap_def] at this
    exact this
theorem read_str {t : TypeId} {v : Value} {d : DataW H} {ps : List MemPlace} {r : Go.Reach} {b0 : Nat} (ht : P.underlying t = some .string) (hv : Value.okWide P W r b0 t v) (h : DataW.Trod enc P W base sp held t v d ps) : ∃ bs : List UInt8,v = str bs ∧ bs.length ≤ maxLen := by
  obtain ⟨s,rfl,_,_,hs⟩ := Go.ChangeMaps.open_string ht hv h
  obtain ⟨a⟩ := s
  refine ⟨a.toList,?_,?_⟩
  · show Value.string ⟨a⟩ = .string ⟨a.toList.toArray⟩
    simp
  · simpa [ByteArray.size] using hs
theorem wf_u8 {z : Int} (h : (Lit.int .u8 z).wf = true) : ∃ n : Nat,z = (n : Int) ∧ n ≤ 255 := by
  simp [Lit.wf,IntKind.min,IntKind.max,IntKind.signed,IntKind.bits] at h
  exact ⟨z.toNat,by omega,by omega⟩
end
section
variable {P : Program} {N : Nat} {rd : Option Nat} {E : Env} {D : List Deferred} {L : List HP} {Q : uF}
theorem J_inX {α : Sort _} {c : Code} {id : Nat} (E' : α → Env) (L' : α → List HP) (h : J P N rd c E D L (inB id (cutX E' D L' Q))) (k : ∀ x,Q .normal (E' x) D (L' x)) : J P N rd c E D L (inB id Q) := by
  intro F a w hr hs
  refine wpIn_mono (h F a w hr hs) ?_
  rintro e a w ⟨E1,D1,L1,q,r,s⟩
  cases e with
  | normal => obtain ⟨x,h1,rfl,h3⟩ := q;exact ⟨E' x,_,L' x,k x,r.sub h1,h3 F w s⟩
  | exit j =>
    by_cases hj : j = id
    · subst hj
      simp only [inB,Nat.beq_refl] at q
      obtain ⟨x,h1,rfl,h3⟩ := q
      refine ⟨E' x,_,L' x,?_,r.sub h1,h3 F w s⟩
      simp only [inB,Nat.beq_refl]
      exact k x
    · have hb : Nat.beq j id = false := beq_false hj
      simp only [inB,hb] at q
      refine ⟨E1,D1,L1,?_,r,s⟩
      simp only [inB,hb]
      exact q
  | goto l => exact ⟨E1,D1,L1,q,r,s⟩
  | ret => exact ⟨E1,D1,L1,q,r,s⟩
  | panic ch => exact ⟨E1,D1,L1,q,r,s⟩
  | outgrown => exact ⟨E1,D1,L1,q,r,s⟩
end
end Go.Sp

/- Arguments: structs,arrays of texts,numbers. -/
namespace Go.Sp
open Go.RowKit
theorem wf_u16 {z : Int} (h : (Lit.int .u16 z).wf = true) : ∃ n : Nat,z = (n : Int) ∧ n < 65536 := by
  simp [Lit.wf,IntKind.min,IntKind.max,IntKind.signed,IntKind.bits] at h
  exact ⟨z.toNat,by omega,by omega⟩
section
variable {H : Type} {enc : TypeId × Value → H} {P : Program} {W : World} {base : Nat} {sp : Nat → Bool} {held : Bool}
theorem ok_agg {t : TypeId} {v : Value} {r : Go.Reach} {b0 : Nat} (hu : (∃ fs,P.underlying t = some (.struct fs)) ∨ ∃ n e,P.underlying t = some (.array n e)) (hv : Value.okWide P W r b0 t v) : ∃ cs : List Value,v = .agg cs.toArray := by
  unfold Value.okWide at hv
  rcases hu with ⟨fs,hu⟩ | ⟨n,e,hu⟩ <;> rw [hu] at hv <;> obtain ⟨cs,rfl,_⟩ := hv <;> exact ⟨cs.toList,by simp⟩
end
end Go.Sp

/- Numbers without a sign: sums,shifts,bits,conversions. -/
namespace Go.Sp
open Go.RowKit
theorem xX {n : Nat} (h : n < 18446744073709551616) : IntKind.u64.wrap (n : Int) = (n : Int) := by
  simp [IntKind.wrap,IntKind.signed,IntKind.bits];omega
theorem wrap_u8 {n : Nat} (h : n < 256) : IntKind.u8.wrap (n : Int) = (n : Int) := by
  simp [IntKind.wrap,IntKind.signed,IntKind.bits];omega
theorem wrap_u8m (n : Nat) : IntKind.u8.wrap (n : Int) = ((n % 256 : Nat) : Int) := by
  simp [IntKind.wrap,IntKind.signed,IntKind.bits]
theorem vF {n : Nat} (h : n < 9223372036854775808) : IntKind.i64.wrap (n : Int) = (n : Int) := by
  rw [IntKind.wrap_i64];omega
theorem wrap_u64i (z : Int) : IntKind.u64.wrap z = z % 18446744073709551616 := by
  simp [IntKind.wrap,IntKind.signed,IntKind.bits]
def Fit (k : IntKind) (n : Nat) : Prop := k.wrap (n : Int) = (n : Int)
section
variable {P : Program} {N : Nat} {rd : Option Nat} {E : Env} {D : List Deferred} {L : List HP} {Q : uF} {next : Env → List Deferred → List HP → Prop}
variable {d : Option Nat} {ty : TypeId} {pos : String} {after : Array Edge} {g : Option (Nat × Bool)}
variable {x y : Operand} {t u : TypeId} {k : IntKind} {a b : Nat}
theorem JQ_addF (hx : ev E x = some (.int k (a : Int))) (hy : ev E y = some (.int k (b : Int))) (h : Fit k (a + b)) : JQ P N ⟨d,.binOp .add t x y u,ty,pos,after,g⟩ E D L (.int k ((a + b : Nat) : Int)) := fun F ac hr w hs => by
  have h' : k.wrap ((a : Int) + (b : Int)) = ((a + b : Nat) : Int) := by rw [← Int.natCast_add];exact h
  simp [execOp,hr.eval hx,hr.eval hy,eqGuard,binOp,Op.intArith,h']
theorem JQ_mulF (hx : ev E x = some (.int k (a : Int))) (hy : ev E y = some (.int k (b : Int))) (h : Fit k (a * b)) : JQ P N ⟨d,.binOp .mul t x y u,ty,pos,after,g⟩ E D L (.int k ((a * b : Nat) : Int)) := fun F ac hr w hs => by
  have h' : k.wrap ((a : Int) * (b : Int)) = ((a * b : Nat) : Int) := by rw [← Int.natCast_mul];exact h
  simp [execOp,hr.eval hx,hr.eval hy,eqGuard,binOp,Op.intArith,h']
theorem JQ_subF (hx : ev E x = some (.int k (a : Int))) (hy : ev E y = some (.int k (b : Int))) (hb : b ≤ a) (h : Fit k (a - b)) : JQ P N ⟨d,.binOp .sub t x y u,ty,pos,after,g⟩ E D L (.int k ((a - b : Nat) : Int)) := fun F ac hr w hs => by
  have h' : k.wrap ((a : Int) - (b : Int)) = ((a - b : Nat) : Int) := by rw [← Int.natCast_sub hb];exact h
  simp [execOp,hr.eval hx,hr.eval hy,eqGuard,binOp,Op.intArith,h']
theorem JQ_remF (hx : ev E x = some (.int k (a : Int))) (hy : ev E y = some (.int k (b : Int))) (hb : 0 < b) : JQ P N ⟨d,.binOp .rem t x y u,ty,pos,after,g⟩ E D L (.int k ((a % b : Nat) : Int)) := fun F ac hr w hs => by
  have h1 : ¬ b = 0 := by omega
  have h2 : ((a : Int).tmod (b : Int)) = ((a % b : Nat) : Int) := by rw [Int.ofNat_tmod]
  simp [execOp,hr.eval hx,hr.eval hy,eqGuard,binOp,Op.intDiv,h1,h2]
theorem JQ_quoF (hx : ev E x = some (.int k (a : Int))) (hy : ev E y = some (.int k (b : Int))) (hb : 0 < b) (h : Fit k (a / b)) : JQ P N ⟨d,.binOp .quo t x y u,ty,pos,after,g⟩ E D L (.int k ((a / b : Nat) : Int)) := fun F ac hr w hs => by
  have h1 : ¬ b = 0 := by omega
  have h2 : ((a : Int).tdiv (b : Int)) = ((a / b : Nat) : Int) := by rw [Int.ofNat_tdiv]
  unfold Fit at h
  simp [execOp,hr.eval hx,hr.eval hy,eqGuard,binOp,Op.intDiv,h1,h2]
  simpa using h
theorem JQ_shrF {yk : IntKind} {s : Nat} (c : Nat) (hx : ev E x = some (.int k (a : Int))) (hy : ev E y = some (.int yk (s : Int))) (hs' : s ≤ k.bits) (hc : 2 ^ s = c) : JQ P N ⟨d,.binOp .shr t x y u,ty,pos,after,g⟩ E D L (.int k ((a / c : Nat) : Int)) := fun F ac hr w hs => by
  have h1 := shift_shr k yk (a : Int) (s : Int) (by omega) (by omega)
  have h2 : ((a : Int) / 2 ^ ((s : Int)).toNat) = ((a / c : Nat) : Int) := by
    rw [Int.toNat_natCast,← hc];simp
  rw [h2] at h1
  simp only [execOp,hr.eval hx,hr.eval hy,eqGuard,binOp,h1]
  simp
theorem JQ_shlF {yk : IntKind} {s : Nat} (hx : ev E x = some (.int k (a : Int))) (hy : ev E y = some (.int yk (s : Int))) (hs' : s ≤ k.bits) (h : Fit k (a * 2 ^ s)) : JQ P N ⟨d,.binOp .shl t x y u,ty,pos,after,g⟩ E D L (.int k ((a * 2 ^ s : Nat) : Int)) := fun F ac hr w hs => by
  have h0 : ¬ ((s : Int) < 0) := by omega
  have h1 : min ((s : Int)).toNat k.bits = s := by rw [Int.toNat_natCast];omega
  have h2 : k.wrap ((a : Int) * 2 ^ s) = ((a * 2 ^ s : Nat) : Int) := by rw [← h];simp
  simp [execOp,hr.eval hx,hr.eval hy,eqGuard,binOp,Op.shift,h0]
  rw [show min s k.bits = s from by omega,h2]
  simp
theorem yX {src dst : TypeId} {k' : IntKind} {sd : TypeDesc} [TU P src sd] [TU P dst (.int k')] (hx : ev E x = some (.int k (a : Int))) (h : Fit k' a) : JQ P N ⟨d,.convert src dst x,ty,pos,after,g⟩ E D L (.int k' (a : Int)) := fun F ac hr w hs => by
  unfold Fit at h
  simp [execOp,hr.eval hx,convert,yM (TU.h (P := P) (t := src)),yM (TU.h (P := P) (t := dst)),Conv.intToInt,h]
theorem JQ_conv8 {src dst : TypeId} {sd : TypeDesc} [TU P src sd] [TU P dst (.int .u8)] (hx : ev E x = some (.int k (a : Int))) : JQ P N ⟨d,.convert src dst x,ty,pos,after,g⟩ E D L (.int .u8 ((a % 256 : Nat) : Int)) := fun F ac hr w hs => by
  simp [execOp,hr.eval hx,convert,yM (TU.h (P := P) (t := src)),yM (TU.h (P := P) (t := dst)),Conv.intToInt,wrap_u8m]
theorem JQ_convW {src dst : TypeId} {k' : IntKind} {sd : TypeDesc} [TU P src sd] [TU P dst (.int k')] {z : Int} (hx : ev E x = some (.int k z)) : JQ P N ⟨d,.convert src dst x,ty,pos,after,g⟩ E D L (.int k' (k'.wrap z)) := fun F ac hr w hs => by
  simp [execOp,hr.eval hx,convert,yM (TU.h (P := P) (t := src)),yM (TU.h (P := P) (t := dst)),Conv.intToInt]
theorem JQ_bits {op : BinOp} {m n : Int} (ho : op = .and ∨ op = .or ∨ op = .xor ∨ op = .andNot) (hx : ev E x = some (.int k m)) (hy : ev E y = some (.int k n)) : JQ P N ⟨d,.binOp op t x y u,ty,pos,after,g⟩ E D L (.int k (ibits op k m n)) := fun F ac hr w hs => by
  rcases ho with rfl | rfl | rfl | rfl <;> simp [execOp,hr.eval hx,hr.eval hy,eqGuard,binOp,Op.intBits,ibits]
theorem JQ_bitsV {op : BinOp} {m n : Int} (v : Int) (ho : op = .and ∨ op = .or ∨ op = .xor ∨ op = .andNot) (hx : ev E x = some (.int k m)) (hy : ev E y = some (.int k n)) (hv : ibits op k m n = v) : JQ P N ⟨d,.binOp op t x y u,ty,pos,after,g⟩ E D L (.int k v) := hv ▸ JQ_bits ho hx hy
theorem JQ_neg {z : Int} (v : Int) (hx : ev E x = some (.int k z)) (hv : k.wrap (0 - z) = v) : JQ P N ⟨d,.unOp .neg t x,ty,pos,after,g⟩ E D L (.int k v) := fun F ac hr w hs => by
  simp [execOp,hr.eval hx,Op.unary,Op.intArith]
  simpa using hv
end
theorem ofInt_nat (w : Nat) (n : Nat) : BitVec.ofInt w (n : Int) = BitVec.ofNat w n := by simp
theorem andNot8 {b : Nat} (h : b < 256) : ibits .andNot .u8 (b : Int) 128 = ((b % 128 : Nat) : Int) := by
  have : ∀ b : Fin 256,ibits .andNot .u8 ((b.val : Nat) : Int) 128 = ((b.val % 128 : Nat) : Int) := by decide +kernel
  exact this ⟨b,h⟩
theorem or8 {b : Nat} (h : b < 128) : ibits .or .u8 (b : Int) 128 = ((b + 128 : Nat) : Int) := by
  have : ∀ b : Fin 128,ibits .or .u8 ((b.val : Nat) : Int) 128 = ((b.val + 128 : Nat) : Int) := by decide +kernel
  exact this ⟨b,h⟩
theorem or64 {a b s : Nat} (ha : a < 2 ^ s) (h : a + b * 2 ^ s < 18446744073709551616) : ibits .or .u64 (a : Int) ((b * 2 ^ s : Nat) : Int) = ((a + b * 2 ^ s : Nat) : Int) := by
  have h1 : b * 2 ^ s < 18446744073709551616 := by omega
  have h2 : a < 18446744073709551616 := by omega
  have e : (BitVec.ofNat 64 a ||| BitVec.ofNat 64 (b * 2 ^ s)).toNat = a + b * 2 ^ s := by
    rw [BitVec.toNat_or,BitVec.toNat_ofNat,BitVec.toNat_ofNat,Nat.mod_eq_of_lt h2,Nat.mod_eq_of_lt h1,← Nat.shiftLeft_eq,Nat.or_comm,← Nat.shiftLeft_add_eq_or_of_lt ha,Nat.add_comm]
  simp only [ibits]
  rw [show IntKind.u64.bits = 64 from rfl,ofInt_nat,ofInt_nat,e]
  exact xX h
theorem and64_1 (n : Nat) : ibits .and .u64 (n : Int) 1 = ((n % 2 : Nat) : Int) := by
  have e : (BitVec.ofNat 64 n &&& BitVec.ofNat 64 1).toNat = n % 2 := by
    rw [BitVec.toNat_and,BitVec.toNat_ofNat,BitVec.toNat_ofNat,show 1 % 2 ^ 64 = 1 from rfl,Nat.and_one_is_mod]
    omega
  simp only [ibits]
  rw [show IntKind.u64.bits = 64 from rfl,show (1 : Int) = ((1 : Nat) : Int) from rfl,ofInt_nat,ofInt_nat,e]
  exact xX (by omega)
theorem xor_0 {z : Int} (h : -9223372036854775808 ≤ z ∧ z ≤ 9223372036854775807) : ibits .xor .i64 z 0 = z := by
  simp only [ibits]
  rw [show IntKind.i64.bits = 64 from rfl,show BitVec.ofInt 64 0 = 0#64 from rfl,BitVec.xor_zero,IntKind.wrap_i64,BitVec.toNat_ofInt]
  omega
theorem xor_m1 {z : Int} (h : -9223372036854775808 ≤ z ∧ z ≤ 9223372036854775807) : ibits .xor .i64 z (-1) = -z - 1 := by
  simp only [ibits]
  rw [show IntKind.i64.bits = 64 from rfl,show BitVec.ofInt 64 (-1) = BitVec.allOnes 64 from by decide,BitVec.xor_allOnes,BitVec.toNat_not,IntKind.wrap_i64,BitVec.toNat_ofInt]
  omega
theorem xoru_0 {n : Nat} (h : n < 18446744073709551616) : ibits .xor .u64 (n : Int) 0 = (n : Int) := by
  simp only [ibits]
  rw [show IntKind.u64.bits = 64 from rfl,show BitVec.ofInt 64 0 = 0#64 from rfl,BitVec.xor_zero,ofInt_nat,BitVec.toNat_ofNat,Nat.mod_eq_of_lt h]
  exact xX h
theorem xoru_m1 {n : Nat} (h : n < 18446744073709551616) : ibits .xor .u64 (n : Int) 18446744073709551615 = ((18446744073709551615 - n : Nat) : Int) := by
  simp only [ibits]
  rw [show IntKind.u64.bits = 64 from rfl,show BitVec.ofInt 64 18446744073709551615 = BitVec.allOnes 64 from by decide,BitVec.xor_allOnes,BitVec.toNat_not,ofInt_nat,BitVec.toNat_ofNat,Nat.mod_eq_of_lt h]
  exact xX (by omega)
end Go.Sp

/- Layer 2: numbers by sevens of bits: what they are,in plain terms. -/
namespace Go.Proofs.YtickblndgihoeaaGreatDoor
open Go Go.Sp
def wY (n : Nat) : List UInt8 := if n < 128 then [UInt8.ofNat n] else UInt8.ofNat (n % 128 + 128) :: wY (n / 128)
termination_by n
decreasing_by omega
theorem encU_lt {n : Nat} (h : n < 128) : wY n = [UInt8.ofNat n] := by rw [wY];simp [h]
theorem encU_ge {n : Nat} (h : ¬ n < 128) : wY n = UInt8.ofNat (n % 128 + 128) :: wY (n / 128) := by rw [wY];simp [h]
theorem toNat_of {n : Nat} (h : n < 256) : (UInt8.ofNat n).toNat = n := by simp;omega
def grab : Nat → List UInt8 → Option (List UInt8 × List UInt8)
  | 0,bs => some ([],bs)
  | _ + 1,[] => none
  | k + 1,b :: r => if b.toNat < 128 then some ([b],r) else (grab k r).map fun x => (b :: x.1,x.2)
def lastN (ts : List UInt8) : Nat := match ts.getLast? with | some x => x.toNat | none => 0
def wrongL (ts : List UInt8) : Bool := decide (128 ≤ lastN ts) || (decide (ts.length = 10) && decide (1 < lastN ts)) || (decide (1 < ts.length) && decide (lastN ts = 0))
def valL : List UInt8 → Nat
  | [] => 0
  | b :: ts => b.toNat % 128 + 128 * valL ts
theorem lastN_cons {b : UInt8} {ts : List UInt8} (h : ts ≠ []) : lastN (b :: ts) = lastN ts := by
  unfold lastN
  rw [List.getLast?_cons]
  cases hl : ts.getLast? with
  | none => simp at hl;exact absurd hl h
  | some x => rfl
theorem lastN_concat {us : List UInt8} {x : UInt8} : lastN (us ++ [x]) = x.toNat := by simp [lastN]
theorem lastN_one {x : UInt8} : lastN [x] = x.toNat := by simp [lastN]
theorem encU_ne (n : Nat) : wY n ≠ [] := by rw [wY];split <;> simp
theorem enc_len {k : Nat} : ∀ {n : Nat},n < 128 ^ (k + 1) → (wY n).length ≤ k + 1 := by
  induction k with
  | zero => intro n h;rw [encU_lt (by simpa using h)];simp
  | succ k ih =>
    intro n h
    by_cases h1 : n < 128
    · rw [encU_lt h1];simp
    · rw [encU_ge h1]
      have : n / 128 < 128 ^ (k + 1) := by
        rw [Nat.div_lt_iff_lt_mul (by decide)]
        rw [Nat.pow_succ] at h
        exact h
      have := ih this
      simp only [List.length_cons]
      omega
theorem vM {n : Nat} (h : n < 18446744073709551616) : (wY n).length ≤ 10 := enc_len (k := 9) (by rw [show (128 : Nat) ^ (9 + 1) = 1180591620717411303424 from by decide];omega)
theorem val_enc : ∀ n : Nat,valL (wY n) = n := by
  intro n
  induction n using Nat.strongRecOn with
  | _ n ih =>
    by_cases h : n < 128
    · rw [encU_lt h]
      simp only [valL,toNat_of (show n < 256 by omega)]
      omega
    · rw [encU_ge h]
      simp only [valL,toNat_of (show n % 128 + 128 < 256 by omega),ih (n / 128) (by omega)]
      omega
theorem grab_enc : ∀ (n k : Nat) (r : List UInt8),(wY n).length ≤ k → grab k (wY n ++ r) = some (wY n,r) := by
  intro n
  induction n using Nat.strongRecOn with
  | _ n ih =>
    intro k r hk
    by_cases h : n < 128
    · rw [encU_lt h] at hk ⊢
      cases k with
      | zero => simp at hk
      | succ k => simp only [List.cons_append,List.nil_append,grab,toNat_of (show n < 256 by omega),h,if_true]
    · rw [encU_ge h] at hk ⊢
      cases k with
      | zero => simp at hk
      | succ k =>
        have h1 : ¬ (n % 128 + 128 < 128) := by omega
        simp only [List.cons_append,grab,toNat_of (show n % 128 + 128 < 256 by omega),h1,if_false]
        rw [ih (n / 128) (by omega) k r (by simpa using hk)]
        rfl
theorem last_enc : ∀ n : Nat,lastN (wY n) < 128 ∧ (1 < (wY n).length → lastN (wY n) ≠ 0) ∧ ((wY n).length = 1 ∨ 128 ^ ((wY n).length - 1) * lastN (wY n) ≤ n) := by
  intro n
  induction n using Nat.strongRecOn with
  | _ n ih =>
    by_cases h : n < 128
    · rw [encU_lt h,lastN_one,toNat_of (by omega)]
      exact ⟨h,fun h => by simp at h,.inl rfl⟩
    · obtain ⟨h1,h2,h3⟩ := ih (n / 128) (by omega)
      rw [encU_ge h,lastN_cons (encU_ne _)]
      refine ⟨h1,fun _ => ?_,.inr ?_⟩
      · by_cases h4 : 1 < (wY (n / 128)).length
        · exact h2 h4
        · have h5 : n / 128 < 128 := by
            by_cases h6 : n / 128 < 128
            · exact h6
            · exfalso
              rw [encU_ge h6] at h4
              have := List.length_pos_iff.2 (encU_ne (n / 128 / 128))
              simp only [List.length_cons] at h4
              omega
          rw [encU_lt h5,lastN_one,toNat_of (by omega)]
          omega
      · simp only [List.length_cons,Nat.add_sub_cancel]
        rcases h3 with h3 | h3
        · have h5 : n / 128 < 128 := by
            by_cases h6 : n / 128 < 128
            · exact h6
            · exfalso
              rw [encU_ge h6] at h3
              have := List.length_pos_iff.2 (encU_ne (n / 128 / 128))
              simp only [List.length_cons] at h3
              omega
          rw [encU_lt h5,lastN_one,toNat_of (by omega)]
          simp
          omega
        · have hl := List.length_pos_iff.2 (encU_ne (n / 128))
          rw [show (wY (n / 128)).length = ((wY (n / 128)).length - 1) + 1 from by omega,Nat.pow_succ,Nat.mul_right_comm]
          have := Nat.mul_le_mul_right 128 h3
          omega
theorem right_enc {n : Nat} (hn : n < 18446744073709551616) : wrongL (wY n) = false := by
  obtain ⟨h1,h2,h3⟩ := last_enc n
  have h4 : ¬ (128 ≤ lastN (wY n)) := by omega
  have h5 : ¬ ((wY n).length = 10 ∧ 1 < lastN (wY n)) := by
    rintro ⟨h5,h6⟩
    rcases h3 with h3 | h3
    · omega
    · rw [h5,show (128 : Nat) ^ (10 - 1) = 9223372036854775808 from by decide] at h3
      omega
  have h6 : ¬ (1 < (wY n).length ∧ lastN (wY n) = 0) := fun ⟨h6,h7⟩ => h2 h6 h7
  unfold wrongL
  simp only [Bool.or_eq_false_iff,Bool.and_eq_false_iff,decide_eq_false_iff_not]
  exact ⟨⟨h4,(Classical.em ((wY n).length = 10)).elim (fun h => .inr fun h' => h5 ⟨h,h'⟩) .inl⟩,(Classical.em (1 < (wY n).length)).elim (fun h => .inr fun h' => h6 ⟨h,h'⟩) .inl⟩
theorem grab_some : ∀ (k : Nat) (bs ts r : List UInt8),grab k bs = some (ts,r) → bs = ts ++ r ∧ ts.length ≤ k := by
  intro k
  induction k with
  | zero => intro bs ts r h;simp [grab] at h;simp [h.1,h.2]
  | succ k ih =>
    intro bs ts r h
    cases bs with
    | nil => simp [grab] at h
    | cons b bs =>
      simp only [grab] at h
      split at h
      · cases h;simp
      · cases hg : grab k bs with
        | none => rw [hg] at h;simp at h
        | some x =>
          rw [hg] at h
          simp only [Option.map_some,Option.some.injEq,Prod.mk.injEq] at h
          obtain ⟨rfl,rfl⟩ := h
          obtain ⟨h1,h2⟩ := ih bs x.1 x.2 hg
          simp [← h1]
          exact h2
theorem enc_val : ∀ (k : Nat) (bs ts r : List UInt8),grab k bs = some (ts,r) → ts ≠ [] → lastN ts < 128 → (1 < ts.length → lastN ts ≠ 0) → wY (valL ts) = ts ∧ (1 < ts.length → 128 ≤ valL ts) := by
  intro k
  induction k with
  | zero => intro bs ts r h hne;simp [grab] at h;exact absurd h.1 (fun e => hne (by rw [e]))
  | succ k ih =>
    intro bs ts r h hne h1 h2
    cases bs with
    | nil => simp [grab] at h
    | cons b bs =>
      simp only [grab] at h
      split at h
      · rename_i hb
        cases h
        have e : valL [b] = b.toNat := by simp only [valL];omega
        rw [e,encU_lt hb]
        exact ⟨by simp,fun h => by simp at h⟩
      · rename_i hb
        cases hg : grab k bs with
        | none => rw [hg] at h;simp at h
        | some x =>
          rw [hg] at h
          simp only [Option.map_some,Option.some.injEq,Prod.mk.injEq] at h
          obtain ⟨rfl,rfl⟩ := h
          have hx : x.1 ≠ [] := by
            intro e
            rw [e,lastN_one] at h1
            exact hb h1
          rw [lastN_cons hx] at h1 h2
          obtain ⟨h3,h4⟩ := ih bs x.1 x.2 hg hx h1 (fun hl => h2 (by simp;omega))
          have hnz : lastN x.1 ≠ 0 := h2 (by have := List.length_pos_iff.2 hx;simp;omega)
          have hv : 1 ≤ valL x.1 := by
            by_cases hl : 1 < x.1.length
            · have := h4 hl;omega
            · obtain ⟨c,hc⟩ := List.length_eq_one_iff.1 (show x.1.length = 1 by have := List.length_pos_iff.2 hx;omega)
              rw [hc,lastN_one] at hnz h1
              rw [hc]
              simp only [valL]
              omega
          have e1 : (b.toNat % 128 + 128 * valL x.1) % 128 + 128 = b.toNat := by
            have := b.toNat_lt
            omega
          have e2 : (b.toNat % 128 + 128 * valL x.1) / 128 = valL x.1 := by omega
          refine ⟨?_,fun _ => by simp only [valL];omega⟩
          simp only [valL]
          rw [encU_ge (by omega),e1,e2,h3]
          simp
theorem val_bound : ∀ ts : List UInt8,valL ts < 128 ^ ts.length := by
  intro ts
  induction ts with
  | nil => simp [valL]
  | cons b ts ih => simp only [valL,List.length_cons,Nat.pow_succ];omega
theorem val_concat : ∀ (us : List UInt8) (x : UInt8),valL (us ++ [x]) = valL us + (x.toNat % 128) * 128 ^ us.length := by
  intro us x
  induction us with
  | nil => simp [valL]
  | cons b us ih =>
    simp only [List.cons_append,valL,ih,List.length_cons,Nat.pow_succ,Nat.mul_add]
    have : 128 * (x.toNat % 128 * 128 ^ us.length) = x.toNat % 128 * (128 ^ us.length * 128) := by
      rw [Nat.mul_comm 128,Nat.mul_assoc]
    omega
theorem val_fits {ts : List UInt8} (hl : ts.length ≤ 10) (hw : wrongL ts = false) : valL ts < 18446744073709551616 := by
  have hb := val_bound ts
  by_cases h10 : ts.length = 10
  · rcases List.eq_nil_or_concat ts with rfl | ⟨us,x,rfl⟩
    · simp at h10
    · rw [List.concat_eq_append] at *
      simp only [wrongL,lastN_concat,h10,decide_true,Bool.true_and,Bool.or_eq_false_iff,decide_eq_false_iff_not] at hw
      rw [val_concat]
      have h9 : us.length = 9 := by simpa using h10
      have := val_bound us
      rw [h9,show (128 : Nat) ^ 9 = 9223372036854775808 from by decide] at *
      have hx : x.toNat % 128 ≤ 1 := by omega
      have : x.toNat % 128 * 9223372036854775808 ≤ 1 * 9223372036854775808 := Nat.mul_le_mul_right _ hx
      omega
  · have : 128 ^ ts.length ≤ 128 ^ 9 := Nat.pow_le_pow_right (by decide) (by omega)
    rw [show (128 : Nat) ^ 9 = 9223372036854775808 from by decide] at this
    omega
structure UAns where
  n : Nat
  c : Int
  a : Int
  rest : List UInt8
  pl : Int
def uA (bs : List UInt8) (pl : Int) : UAns := match grab 10 bs with
  | none => ⟨0,3,pl + bs.length,[],pl + bs.length⟩
  | some (ts,r) => if wrongL ts then ⟨0,5,pl,r,pl + ts.length⟩ else ⟨valL ts,0,0,r,pl + ts.length⟩
theorem uA_ok (bs : List UInt8) (pl : Int) : (uA bs pl).n < 18446744073709551616 ∧ (uA bs pl).pl + (uA bs pl).rest.length = pl + bs.length ∧ pl ≤ (uA bs pl).pl ∧ ((uA bs pl).c ≠ 0 → (uA bs pl).n = 0) := by
  unfold uA
  split
  · simp;omega
  · rename_i ts r hg
    obtain ⟨h1,h2⟩ := grab_some _ _ _ _ hg
    split
    · simp [h1];omega
    · rename_i hw
      exact ⟨val_fits h2 (by simpa using hw),by simp [h1];omega,by simp only;omega,fun h => absurd rfl h⟩
def foldZ (z : Int) : Nat := if 0 ≤ z then (2 * z).toNat else (-2 * z - 1).toNat
def uB (n : Nat) : Int := if n % 2 = 0 then (n / 2 : Nat) else -((n / 2 : Nat) : Int) - 1
theorem fold_lt {z : Int} (h : -9223372036854775808 ≤ z ∧ z ≤ 9223372036854775807) : foldZ z < 18446744073709551616 := by
  unfold foldZ
  split <;> omega
theorem unfold_in {n : Nat} (h : n < 18446744073709551616) : -9223372036854775808 ≤ uB n ∧ uB n ≤ 9223372036854775807 := by
  unfold uB
  split <;> omega
theorem uA_enc {n : Nat} (hn : n < 18446744073709551616) (r : List UInt8) (pl : Int) : uA (wY n ++ r) pl = ⟨n,0,0,r,pl + (wY n).length⟩ := by
  unfold uA
  rw [grab_enc n 10 r (vM hn)]
  simp only [right_enc hn,val_enc]
  rfl
end Go.Proofs.YtickblndgihoeaaGreatDoor

/- Arrays behind pointers: their fronts as slices,their places;interfaces made. -/
namespace Go.Sp
open Go.RowKit
section
variable {P : Program} {N : Nat} {rd : Option Nat} {E : Env} {D : List Deferred} {L : List HP} {Q : uF} {next : Env → List Deferred → List HP → Prop}
variable {d : Option Nat} {ty : TypeId} {pos : String} {after : Array Edge} {g : Option (Nat × Bool)}
theorem JQ_headA {t e len : Nat} [TU P t (.array len e)] {z : Value} {n k : Nat} [TI P e z n k] {x hi : Operand} {b o h : Nat} {ik : IntKind} (hx : ev E x = some (.pointer (some ⟨b,o,none⟩))) (hh : ev E hi = some (.int ik (h : Int))) (h2 : h ≤ len) :
    JQ P N ⟨d,.slice t x none (some hi) none,ty,pos,after,g⟩ E D L (.slice (some ⟨b,o,none⟩) h len) := fun F a hr w hs => by
  obtain ⟨i,h1,h3,h4,h5⟩ := TI.h (P := P) (t := e) (z := z) (n := n) (b := k)
  have h6 : (if len = 0 then (⟨b,o,none⟩ : Addr) else (⟨b,o,none⟩ : Addr).add (0 * i.size)) = ⟨b,o,none⟩ := by
    split <;> simp [Addr.add]
  simp [execOp,hr.eval hx,hr.eval hh,Instr.sliceAt,Instr.sureAddr,Instr.sliceBounds,yM (TU.h (P := P) (t := t)),run_sliceBound _ ik (h : Int) len _ (by omega) (by omega),vK h1]
  simpa using h6
theorem JQ_indexPA {t e len : Nat} [TU P t (.array len e)] {z : Value} {n k : Nat} [TI P e z n k] {x y : Operand} {b o j : Nat} {ik : IntKind} (hx : ev E x = some (.pointer (some ⟨b,o,none⟩))) (hy : ev E y = some (.int ik (j : Int))) (hj : j < len) :
    JQ P N ⟨d,.indexAddr t x y,ty,pos,after,g⟩ E D L (.pointer (some ⟨b,o + j * n,none⟩)) := fun F a hr w hs => by
  obtain ⟨i,h1,h2,h3,h4⟩ := TI.h (P := P) (t := e) (z := z) (n := n) (b := k)
  have h5 : ¬ len ≤ j := by omega
  simp [execOp,Instr.indexAt,hr.eval hx,hr.eval hy,asIntOf,yM (TU.h (P := P) (t := t)),Instr.sureAddr,vK h1,h3,addr_add,h5]
theorem JO_callCV' {v : Value} {L0 K M L1 : List HP} {f : FuncId} [hf : CF P f] {x : Operand} {args : Array Operand} {ts : Array TypeId} {vs fs cs : List Value} (hfv : ev E x = some (.func (.func f) fs.toArray cs.toArray))
    (hx : evs E args.toList = some vs) (hc : Ct P f (fs ++ vs ++ cs).toArray K (wF v L0)) [hs : Sel K L M] [ha : AppH L0 M L1] (hd : dok N d = true) (h : next (put E d v) D L1) :
    JO P N rd ⟨d,.call ⟨.value x,args,ts⟩,ty,pos,after,g⟩ E D L next Q :=
  JO_callV hfv hx hc.use hd (fun _ _ ⟨_,⟨he,hL⟩,hL'⟩ => by cases he;rw [hL',hL,ha.h];exact h) (fun _ _ ⟨_,⟨he,_⟩,_⟩ => by cases he)
end
end Go.Sp

/- Layer 2: bytes that were taken: the last one,what is wrong with them,their number. -/
namespace Go.Proofs.YtickblndgihoeaaGreatDoor
open Go Go.Sp
def tcells (ts : List UInt8) : List Value := by8 (ts ++ List.replicate (10 - ts.length) 0) ++ [.int .i64 (ts.length : Int)]
theorem tcells_len {ts : List UInt8} (h : ts.length ≤ 10) : (tcells ts).length = 11 := by simp [tcells,by8];omega
theorem tcells_n {ts : List UInt8} (h : ts.length ≤ 10) : (tcells ts)[10]? = some (.int .i64 (ts.length : Int)) := by
  unfold tcells
  rw [List.getElem?_append_right (by simp [by8];omega)]
  have : 10 - (by8 (ts ++ List.replicate (10 - ts.length) 0)).length = 0 := by simp [by8];omega
  rw [this]
  rfl
theorem tcells_get {ts : List UInt8} {i : Nat} {b : UInt8} (h : ts[i]? = some b) : (tcells ts)[i]? = some (.int .u8 ((b.toNat : Nat) : Int)) := by
  have hi := (List.getElem?_eq_some_iff.1 h).1
  unfold tcells
  rw [List.getElem?_append_left (by simp [by8];omega)]
  exact by8_get (by rw [List.getElem?_append_left hi];exact h)
theorem tcells_put {ts : List UInt8} {b : UInt8} (h : ts.length < 10) : ((tcells ts).set ts.length (.int .u8 ((b.toNat : Nat) : Int))).set 10 (.int .i64 ((ts.length + 1 : Nat) : Int)) = tcells (ts ++ [b]) := by
  apply List.ext_getElem?
  intro i
  have h11 := tcells_len (ts := ts) (by omega)
  have h12 := tcells_len (ts := ts ++ [b]) (by simp;omega)
  by_cases hi : i = 10
  · subst hi
    rw [List.getElem?_set_self (by simp [h11]),tcells_n (by simp;omega)]
    simp
  · rw [List.getElem?_set_ne (by omega)]
    by_cases h2 : i = ts.length
    · subst h2
      rw [List.getElem?_set_self (by rw [h11];omega),tcells_get (b := b) (by simp)]
    · rw [List.getElem?_set_ne (by omega)]
      by_cases h3 : i < 10
      · unfold tcells
        rw [List.getElem?_append_left (by simp [by8];omega),List.getElem?_append_left (by simp [by8];omega)]
        simp only [by8,List.getElem?_map]
        congr 1
        by_cases h4 : i < ts.length
        · rw [List.getElem?_append_left h4,List.getElem?_append_left (by simp;omega),List.getElem?_append_left h4]
        · rw [List.getElem?_append_right (by omega),List.getElem?_append_right (by simp;omega)]
          simp only [List.getElem?_replicate,List.length_append,List.length_cons,List.length_nil]
          have a1 : i - ts.length < 10 - ts.length := by omega
          have a2 : i - (ts.length + (0 + 1)) < 10 - (ts.length + (0 + 1)) := by omega
          rw [if_pos a1,if_pos a2]
      · rw [List.getElem?_eq_none (by omega),List.getElem?_eq_none (by omega)]
abbrev Tb (b : Nat) (ts : List UInt8) : HP := pt b (.cells (tcells ts).toArray 283 (0,0))
theorem get_last {us : List UInt8} {x : UInt8} : (us ++ [x])[us.length]? = some x := by simp
attribute [local irreducible] J JL JO Ct JG JM JQ JQ0 JS CtD xB tcells
theorem lfault_c (code at_ : Int) : Ct Tryz.prog 151 #[.int .i64 code,.int .i64 at_] [] (RetE (fun _ : Nat => True) xH (fun q => [Ft q code at_])) := by
  refine yE (vs := [_,_]) Tryz.func151 rfl Tryz.ntmps151 (by simp) ?_
  repeat (first|(first|refine zB ?_|refine zE ?_|refine zG ?_|refine zV ?_)|(first|((first|refine zA rfl ?_);first|refine yG (cs := [.int .i64 code,.int .i64 at_]) rfl rfl rfl ?_|refine zD rfl rfl ?_|refine zC rfl rfl ?_|refine yN rfl rfl (fun r => ?_)|refine vD (by simp) rfl rfl ?_)))
  exact ret_one rfl rfl r trivial rfl Ent.sel
theorem last_c (b : Nat) (us : List UInt8) (x : UInt8) (h : us.length < 10) : Ct Tryz.prog 172 #[ptr b] [Tb b (us ++ [x])] (wF (.int .u8 ((x.toNat : Nat) : Int)) [Tb b (us ++ [x])]) := by
  have h1 := tcells_n (ts := us ++ [x]) (by simp;omega)
  rw [show ((us ++ [x]).length : Int) = ((us.length + 1 : Nat) : Int) from by simp] at h1
  have h2 := tcells_get (get_last (us := us) (x := x))
  refine yE (vs := [_]) Tryz.func172 rfl Tryz.ntmps172 (by simp) ?_
  repeat (first|(first|refine zB ?_|refine zE ?_|refine zG ?_)|(first|((first|refine zA rfl ?_);first|refine zC rfl rfl ?_)))
  refine J_calm ?_
  refine vO ?_
  repeat (first|refine tA rfl ?_|refine JG_n rfl rfl rfl (by kernel_rfl) (by kernel_rfl) rfl Ent.sel (by first|exact yQ rfl|exact tC rfl (wB h1)|exact JQ_subF (b := 1) rfl rfl (by omega) (vF (by omega))|exact JQ_indexPA rfl rfl (by omega)|exact tC rfl (wB (by rw [Nat.zero_add,Nat.mul_one];exact h2))|exact xE rfl|exact vT rfl|exact xP rfl) ?_)
  repeat (first|(first|refine zV ?_)|(first|((first|refine zA rfl ?_);first|refine zD rfl rfl ?_)))
  exact zY rfl rfl Ent.sel
theorem wrong1_c (p b : Nat) (us : List UInt8) (x : UInt8) (h : us.length < 10) (fz : Nat × Nat) : Ct Tryz.prog 180 #[ptr p] [pt p (.cells #[ptr b] 290 fz),Tb b (us ++ [x])] (wF (.bool (decide (128 ≤ x.toNat))) [pt p (.cells #[ptr b] 290 fz),Tb b (us ++ [x])]) := by
  refine yE (vs := [_]) Tryz.func180 rfl Tryz.ntmps180 (by simp) ?_
  repeat (first|(first|refine zB ?_|refine zE ?_|refine zG ?_|refine zV ?_)|(first|((first|refine zA rfl ?_);first|refine zC rfl rfl ?_|refine zH rfl rfl ?_|refine JO_geq rfl rfl rfl ?_|refine zN rfl (last_c b us x h) rfl ?_)))
  refine zY rfl ?_ Ent.sel
  show some (Value.bool (decide ((128 : Int) ≤ ((x.toNat : Nat) : Int)))) = _
  congr 2
  simp
  omega
theorem wrong2_c (p b : Nat) (us : List UInt8) (x : UInt8) (h : us.length < 10) (fz : Nat × Nat) : Ct Tryz.prog 181 #[ptr p] [pt p (.cells #[ptr b] 290 fz),Tb b (us ++ [x])] (wF (.bool (decide (us.length + 1 = 10) && decide (1 < x.toNat))) [pt p (.cells #[ptr b] 290 fz),Tb b (us ++ [x])]) := by
  have h1 := tcells_n (ts := us ++ [x]) (by simp;omega)
  rw [show ((us ++ [x]).length : Int) = ((us.length + 1 : Nat) : Int) from by simp] at h1
  refine yE (vs := [_]) Tryz.func181 rfl Tryz.ntmps181 (by simp) ?_
  repeat (first|(first|refine zB ?_|refine zE ?_|refine zG ?_)|(first|((first|refine zA rfl ?_);first|refine JOq (yQ rfl) rfl ?_|refine wU rfl (wB h1) rfl ?_|refine zD rfl rfl ?_|refine zC rfl rfl ?_|refine zF rfl rfl ?_|refine zH rfl rfl ?_|refine JO_eqI rfl rfl rfl ?_)))
  refine JL_guardP rfl rfl rfl (fun h10 => ?_) (fun h10 => ?_)
  · repeat (first|(first|refine zE ?_|refine zV ?_)|(first|((first|refine zA rfl ?_|refine zZ rfl rfl ?_);first|refine zC rfl rfl ?_|refine zH rfl rfl ?_|refine yA rfl rfl rfl ?_|refine JO_gtr rfl rfl rfl ?_|refine zN rfl (last_c b us x h) rfl ?_)))
    refine zY rfl ?_ Ent.sel
    have : us.length + 1 = 10 := by omega
    show some (Value.bool (decide ((1 : Int) < ((x.toNat : Nat) : Int)))) = _
    simp [this]
    omega
  · repeat (first|(first|refine zE ?_|refine zV ?_)|(first|((first|refine zA rfl ?_);first|refine zC rfl rfl ?_|refine yJ rfl rfl rfl ?_)|refine yU rfl rfl rfl ?_))
    refine zY rfl ?_ Ent.sel
    have : ¬ (us.length + 1 = 10) := by omega
    show some (Value.bool false) = _
    simp [this]
theorem wrong3_c (p b : Nat) (us : List UInt8) (x : UInt8) (h : us.length < 10) (fz : Nat × Nat) : Ct Tryz.prog 182 #[ptr p] [pt p (.cells #[ptr b] 290 fz),Tb b (us ++ [x])] (wF (.bool (decide (1 < us.length + 1) && decide (x.toNat = 0))) [pt p (.cells #[ptr b] 290 fz),Tb b (us ++ [x])]) := by
  have h1 := tcells_n (ts := us ++ [x]) (by simp;omega)
  rw [show ((us ++ [x]).length : Int) = ((us.length + 1 : Nat) : Int) from by simp] at h1
  refine yE (vs := [_]) Tryz.func182 rfl Tryz.ntmps182 (by simp) ?_
  repeat (first|(first|refine zB ?_|refine zE ?_|refine zG ?_)|(first|((first|refine zA rfl ?_);first|refine JOq (yQ rfl) rfl ?_|refine wU rfl (wB h1) rfl ?_|refine zD rfl rfl ?_|refine zC rfl rfl ?_|refine zF rfl rfl ?_|refine zH rfl rfl ?_|refine JO_gtr rfl rfl rfl ?_)))
  refine JL_guardP rfl rfl rfl (fun h10 => ?_) (fun h10 => ?_)
  · repeat (first|(first|refine zE ?_|refine zV ?_)|(first|((first|refine zA rfl ?_|refine zZ rfl rfl ?_);first|refine zC rfl rfl ?_|refine zH rfl rfl ?_|refine yA rfl rfl rfl ?_|refine JO_eqI rfl rfl rfl ?_|refine zN rfl (last_c b us x h) rfl ?_)))
    refine zY rfl ?_ Ent.sel
    have : 1 < us.length + 1 := by omega
    show some (Value.bool (decide (((x.toNat : Nat) : Int) = (0 : Int)))) = _
    simp [this]
  · repeat (first|(first|refine zE ?_|refine zV ?_)|(first|((first|refine zA rfl ?_);first|refine zC rfl rfl ?_|refine yJ rfl rfl rfl ?_)|refine yU rfl rfl rfl ?_))
    refine zY rfl ?_ Ent.sel
    have : ¬ (1 < us.length + 1) := by omega
    show some (Value.bool false) = _
    simp [this]
abbrev fv (f : FuncId) (p : Nat) : Value := .func (.func f) #[] #[ptr p]
set_option maxHeartbeats 1000000 in
theorem anyof_c (r p b : Nat) (us : List UInt8) (x : UInt8) (h : us.length < 10) (fz fz2 : Nat × Nat) :
    Ct Tryz.prog 179 #[.slice (some ⟨r,0,none⟩) 3 3] [pt r (.cells #[fv 180 p,fv 181 p,fv 182 p] 33 fz2),pt p (.cells #[ptr b] 290 fz),Tb b (us ++ [x])] (wF (.bool (wrongL (us ++ [x]))) [Tb b (us ++ [x])]) := by
  have hw : wrongL (us ++ [x]) = (decide (128 ≤ x.toNat) || (decide (us.length + 1 = 10) && decide (1 < x.toNat)) || (decide (1 < us.length + 1) && decide (x.toNat = 0))) := by
    simp [wrongL,lastN_concat]
  rw [hw]
  have c1 := wrong1_c p b us x h fz
  have c2 := wrong2_c p b us x h fz
  have c3 := wrong3_c p b us x h fz
  generalize decide (128 ≤ x.toNat) = q1 at *
  generalize (decide (us.length + 1 = 10) && decide (1 < x.toNat)) = q2 at *
  generalize (decide (1 < us.length + 1) && decide (x.toNat = 0)) = q3 at *
  refine yE (vs := [_]) Tryz.func179 rfl Tryz.ntmps179 (by simp) ?_
  repeat (first|(first|refine zB ?_|refine zE ?_|refine zG ?_|refine zK ?_)|(first|((first|refine zA rfl ?_);first|refine zD rfl rfl ?_|refine zC rfl rfl ?_|refine yF rfl rfl ?_)))
  refine xU (β := { k : Nat // k ≤ 3 ∧ (0 < k → q1 = false) ∧ (1 < k → q2 = false) ∧ (2 < k → q3 = false) }) (fun k => [(5,.slice (some ⟨r,0,none⟩) 3 3),(6,.int .i64 3),(7,.int .i64 (k.1 : Int))]) (fun _ => [])
    (fun _ => [pt r (.cells #[fv 180 p,fv 181 p,fv 182 p] 33 fz2),pt p (.cells #[ptr b] 290 fz),Tb b (us ++ [x])]) (fun k => 3 - k.1) ⟨0,by simp⟩ ?_ rfl Ent.sel ?_
  · (repeat (first|exact zM _|refine zI rfl ?_))
  rintro ⟨k,hk,k1,k2,k3⟩
  dsimp only
  match k,hk with
  | 0,_ =>
    repeat (first|(first|refine zB ?_|refine zE ?_|refine zG ?_|refine zK ?_|refine zP ?_|refine zL rfl ?_)|(first|((first|refine zA rfl ?_);first|refine JO_callCV' (vs := []) (fs := []) (cs := [ptr p]) rfl rfl c1 rfl ?_|refine zD rfl rfl ?_|refine zC rfl rfl ?_|refine zH rfl rfl ?_|refine JO_lss rfl rfl rfl ?_|refine JO_index1 rfl rfl (by omega) rfl ?_)))
    refine J_cond rfl (fun hq => ?_) (fun hq => ?_)
    · repeat (first|(first|refine zB ?_|refine zE ?_|refine zG ?_|refine zV ?_)|(first|((first|refine zA rfl ?_);first|refine zC rfl rfl ?_)))
      refine zY rfl ?_ Ent.sel
      show some (Value.bool true) = _
      simp [hq]
    · repeat (first|(first|refine zB ?_|refine zE ?_|refine zP ?_)|(first|((first|refine zA rfl ?_);first|refine zD rfl rfl ?_|refine JO_add rfl rfl (by omega) rfl ?_)))
      exact ⟨⟨1,by decide,fun _ => hq,fun h => by omega,fun h => by omega⟩,by simp,by (repeat (first|exact zM _|refine zI rfl ?_)),rfl,Ent.sel⟩
  | 1,_ =>
    have hq1 := k1 (by omega)
    repeat (first|(first|refine zB ?_|refine zE ?_|refine zG ?_|refine zK ?_|refine zP ?_|refine zL rfl ?_)|(first|((first|refine zA rfl ?_);first|refine JO_callCV' (vs := []) (fs := []) (cs := [ptr p]) rfl rfl c2 rfl ?_|refine zD rfl rfl ?_|refine zC rfl rfl ?_|refine zH rfl rfl ?_|refine JO_lss rfl rfl rfl ?_|refine JO_index1 rfl rfl (by omega) rfl ?_)))
    refine J_cond rfl (fun hq => ?_) (fun hq => ?_)
    · repeat (first|(first|refine zB ?_|refine zE ?_|refine zG ?_|refine zV ?_)|(first|((first|refine zA rfl ?_);first|refine zC rfl rfl ?_)))
      refine zY rfl ?_ Ent.sel
      show some (Value.bool true) = _
      simp [hq]
    · repeat (first|(first|refine zB ?_|refine zE ?_|refine zP ?_)|(first|((first|refine zA rfl ?_);first|refine zD rfl rfl ?_|refine JO_add rfl rfl (by omega) rfl ?_)))
      exact ⟨⟨2,by decide,fun _ => hq1,fun _ => hq,fun h => by omega⟩,by simp,by (repeat (first|exact zM _|refine zI rfl ?_)),rfl,Ent.sel⟩
  | 2,_ =>
    have hq1 := k1 (by omega)
    have hq2 := k2 (by omega)
    repeat (first|(first|refine zB ?_|refine zE ?_|refine zG ?_|refine zK ?_|refine zP ?_|refine zL rfl ?_)|(first|((first|refine zA rfl ?_);first|refine JO_callCV' (vs := []) (fs := []) (cs := [ptr p]) rfl rfl c3 rfl ?_|refine zD rfl rfl ?_|refine zC rfl rfl ?_|refine zH rfl rfl ?_|refine JO_lss rfl rfl rfl ?_|refine JO_index1 rfl rfl (by omega) rfl ?_)))
    refine J_cond rfl (fun hq => ?_) (fun hq => ?_)
    · repeat (first|(first|refine zB ?_|refine zE ?_|refine zG ?_|refine zV ?_)|(first|((first|refine zA rfl ?_);first|refine zC rfl rfl ?_)))
      refine zY rfl ?_ Ent.sel
      show some (Value.bool true) = _
      simp [hq]
    · repeat (first|(first|refine zB ?_|refine zE ?_|refine zP ?_)|(first|((first|refine zA rfl ?_);first|refine zD rfl rfl ?_|refine JO_add rfl rfl (by omega) rfl ?_)))
      exact ⟨⟨3,by decide,fun _ => hq1,fun _ => hq2,fun _ => hq⟩,by simp,by (repeat (first|exact zM _|refine zI rfl ?_)),rfl,Ent.sel⟩
  | 3,_ =>
    have hq1 := k1 (by omega)
    have hq2 := k2 (by omega)
    have hq3 := k3 (by omega)
    repeat (first|(first|refine zB ?_|refine zE ?_|refine zG ?_|refine zJ rfl ?_|refine xA ?_|refine zV ?_)|(first|((first|refine zA rfl ?_);first|refine zC rfl rfl ?_|refine JO_lss rfl rfl rfl ?_)))
    refine zY rfl ?_ Ent.sel
    show some (Value.bool false) = _
    simp [hq1,hq2,hq3]
theorem wrong_c (b : Nat) (us : List UInt8) (x : UInt8) (h : us.length < 10) : Ct Tryz.prog 173 #[ptr b] [Tb b (us ++ [x])] (wF (.bool (wrongL (us ++ [x]))) [Tb b (us ++ [x])]) := by
  refine yE (vs := [_]) Tryz.func173 rfl Tryz.ntmps173 (by simp) ?_
  repeat (first|(first|refine zB ?_|refine zE ?_|refine zG ?_)|(first|((first|refine zA rfl ?_);first|refine zC rfl rfl ?_|refine yP rfl rfl rfl (by decide) rfl (fun r => ?_)|refine JO_box1 rfl rfl rfl (fun r => ?_)|refine wP rfl rfl rfl ?_)))
  rename_i p
  refine zA rfl (zN rfl (anyof_c r p b us x h (0,0) (0,0)) rfl ?_)
  repeat (first|(first|refine zE ?_|refine zV ?_)|(first|((first|refine zA rfl ?_);first|refine zC rfl rfl ?_)))
  exact zY rfl rfl Ent.sel
theorem val_take {ts : List UInt8} {i : Nat} {c : UInt8} (h : ts[i]? = some c) : valL (ts.take (i + 1)) = valL (ts.take i) + (c.toNat % 128) * 2 ^ (7 * i) := by
  have hi := (List.getElem?_eq_some_iff.1 h).1
  rw [List.take_add_one,h,Option.toList_some,val_concat,List.length_take,Nat.min_eq_left (by omega),Nat.pow_mul]
theorem val_take_le (ts : List UInt8) (i : Nat) : valL (ts.take i) ≤ valL ts := by
  induction ts generalizing i with
  | nil => simp
  | cons b ts ih =>
    cases i with
    | zero => simp [valL]
    | succ i => simp only [List.take_succ_cons,valL];have := ih i;omega
set_option maxHeartbeats 1000000 in
theorem number_c (b : Nat) (ts : List UInt8) (h : ts.length ≤ 10) (hv : valL ts < 18446744073709551616) : Ct Tryz.prog 174 #[ptr b] [Tb b ts] (wF (.int .u64 ((valL ts : Nat) : Int)) [Tb b ts]) := by
  have h1 := tcells_n h
  refine yE (vs := [_]) Tryz.func174 rfl Tryz.ntmps174 (by simp) ?_
  repeat (first|(first|refine zB ?_|refine zE ?_|refine zG ?_)|(first|((first|refine zA rfl ?_);first|refine zC rfl rfl ?_)))
  refine J_calm ?_
  refine vO ?_
  repeat (first|refine tA rfl ?_|refine JG_n rfl rfl rfl (by kernel_rfl) (by kernel_rfl) rfl Ent.sel (by first|exact yQ rfl|exact tC rfl (wB h1)|exact JQ_headA rfl rfl h|exact xE rfl|exact xP rfl|exact JQ_len rfl) ?_)
  repeat (first|(first|refine zK ?_)|(first|((first|refine zA rfl ?_);first|refine zD rfl rfl ?_)))
  refine xU (β := { i : Nat // i ≤ ts.length }) (fun i => [(2,.int .u64 ((valL (ts.take i.1) : Nat) : Int)),(12,.slice (some ⟨b,0,none⟩) ts.length 10),(13,.int .i64 (ts.length : Int)),(14,.int .i64 (i.1 : Int))]) (fun _ => [])
    (fun _ => [Tb b ts]) (fun i => ts.length - i.1) ⟨0,Nat.zero_le _⟩ ?_ rfl Ent.sel ?_
  · (repeat (first|exact zM _|refine zI rfl ?_))
  rintro ⟨i,hi⟩
  dsimp only
  repeat (first|(first|refine zB ?_|refine zE ?_|refine zG ?_)|(first|((first|refine zA rfl ?_);first|refine JO_lss rfl rfl rfl ?_)))
  refine J_condP rfl (fun hlt => ?_) (fun hge => ?_)
  · have hi2 : i < ts.length := by omega
    obtain ⟨c,hc⟩ : ∃ c,ts[i]? = some c := ⟨_,List.getElem?_eq_getElem hi2⟩
    have hg := tcells_get hc
    have hcn := c.toNat_lt
    have hvt := val_take hc
    have hle := val_take_le ts (i + 1)
    have hb : valL (ts.take i) < 2 ^ (7 * i) := by
      have := val_bound (ts.take i)
      rw [List.length_take,Nat.min_eq_left hi,show (128 : Nat) = 2 ^ 7 from rfl,← Nat.pow_mul] at this
      exact this
    have hs : valL (ts.take i) + c.toNat % 128 * 2 ^ (7 * i) < 18446744073709551616 := by omega
    have hs2 : c.toNat % 128 * 2 ^ (7 * i) < 18446744073709551616 := by omega
    repeat (first|(first|refine zB ?_|refine zE ?_|refine zG ?_|refine zK ?_|refine zP ?_)|(first|((first|refine zA rfl ?_);first|refine wU rfl (wB hg) rfl ?_|refine JOq (JQ_bitsV _ (.inr (.inr (.inr rfl))) rfl rfl (andNot8 (b := c.toNat) (by omega))) rfl ?_|refine JOq (yX rfl (xX (by omega))) rfl ?_|refine JOq (JQ_mulF (a := 7) (b := i) rfl rfl (vF (by omega))) rfl ?_|refine JOq (JQ_shlF (s := 7 * i) rfl rfl (by show 7 * i ≤ 64;omega) (xX hs2)) rfl ?_|refine JOq (JQ_bitsV _ (.inr (.inl rfl)) rfl rfl (or64 hb hs)) rfl ?_|refine yZ (b := 1) rfl rfl (by omega) rfl ?_|refine zD rfl rfl ?_|refine zC rfl rfl ?_|refine JO_index1 rfl rfl (by omega) rfl ?_)))
    refine ⟨⟨i + 1,hi2⟩,by simp only;omega,?_,rfl,Ent.sel⟩
    dsimp only
    rw [hvt]
    (repeat (first|exact zM _|refine zI rfl ?_))
  · obtain rfl : i = ts.length := by omega
    rw [List.take_length]
    repeat (first|(first|refine zB ?_|refine zE ?_|refine zG ?_|refine xA ?_|refine zV ?_)|(first|((first|refine zA rfl ?_);first|refine zD rfl rfl ?_|refine zC rfl rfl ?_)))
    exact zY rfl rfl Ent.sel
end Go.Proofs.YtickblndgihoeaaGreatDoor

/- Layer 2: the program takes a number. -/
namespace Go.Proofs.YtickblndgihoeaaGreatDoor
open Go Go.Sp
def endsB (ts : List UInt8) : Bool := match ts.getLast? with | none => false | some x => decide (x.toNat < 128)
theorem ends_concat {us : List UInt8} {x : UInt8} : endsB (us ++ [x]) = decide (x.toNat < 128) := by simp [endsB]
structure GInv (bs0 ts bs : List UInt8) : Prop where
  hl : ts.length + bs.length = bs0.length
  h10 : ts.length ≤ 10
  hg : grab 10 bs0 = if endsB ts then some (ts,bs) else (grab (10 - ts.length) bs).map fun x => (ts ++ x.1,x.2)
theorem ginv_nil (bs : List UInt8) : GInv bs [] bs := ⟨by simp,by simp,by
  simp only [endsB,List.getLast?_nil,List.length_nil,Nat.sub_zero,List.nil_append]
  cases grab 10 bs <;> rfl⟩
theorem GInv.step {bs0 ts r : List UInt8} {b : UInt8} (h : GInv bs0 ts (b :: r)) (he : endsB ts = false) (hl : ts.length < 10) : GInv bs0 (ts ++ [b]) r := by
  have h1 := h.hl
  simp only [List.length_cons] at h1
  refine ⟨by simp;omega,by simp;omega,?_⟩
  have hg := h.hg
  rw [he] at hg
  rw [hg,ends_concat,show 10 - ts.length = (10 - (ts ++ [b]).length) + 1 from by simp;omega]
  simp only [grab]
  by_cases hb : b.toNat < 128
  · simp [hb]
  · simp only [hb,decide_false,if_false,Bool.false_eq_true]
    rw [Option.map_map]
    congr 1
    funext x
    simp
theorem GInv.short {bs0 ts : List UInt8} (h : GInv bs0 ts []) (he : endsB ts = false) (hl : ts.length < 10) : grab 10 bs0 = none := by
  rw [h.hg,he,show 10 - ts.length = (9 - ts.length) + 1 from by omega]
  rfl
theorem GInv.done {bs0 ts bs : List UInt8} (h : GInv bs0 ts bs) (he : endsB ts = true ∨ ts.length = 10) : grab 10 bs0 = some (ts,bs) := by
  rw [h.hg]
  by_cases h1 : endsB ts = true
  · rw [h1];rfl
  · have h2 : endsB ts = false := by simpa using h1
    have h3 := he.resolve_left h1
    rw [h2,h3]
    simp [grab]
theorem tcells_mid {ts : List UInt8} {v : Value} (h : ts.length < 10) : ((tcells ts).set ts.length v)[10]? = some (.int .i64 (ts.length : Int)) := by
  rw [List.getElem?_set_ne (by omega)]
  exact tcells_n (by omega)
attribute [local irreducible] callFunc Go.method J JL JO Ct JG JM JQ JQ0 JS CtD xB tcells RdB Er by8
set_option maxRecDepth 4000 in
set_option maxHeartbeats 2000000 in
theorem u_E (b : Nat) (bs : List UInt8) (pl : Int) (hpl : 0 ≤ pl ∧ pl + bs.length ≤ 1000000) :
    Ct Tryz.prog 150 #[ptr b] [RdB b bs pl] (RetE (fun _ : Value => True) (fun v => .tuple #[.int .u64 (((uA bs pl).n : Nat) : Int),v]) (fun v => [Er v (uA bs pl).c (uA bs pl).a,RdB b (uA bs pl).rest (uA bs pl).pl])) := by
  have hp := place_B b bs pl
  refine yE (vs := [_]) Tryz.func150 rfl Tryz.ntmps150 (by simp) ?_
  repeat (first|(first|refine zB ?_|refine zE ?_|refine zG ?_|refine zK ?_)|(first|((first|refine zA rfl ?_);first|refine zD rfl rfl ?_|refine zC rfl rfl ?_|refine zS rfl (fun r => ?_)|refine zN rfl (hp) rfl ?_)))
  refine J_inX (α := { y : List UInt8 × List UInt8 // GInv bs y.1 y.2 ∧ y.1 ≠ [] ∧ grab 10 bs = some y }) (fun _ => [(0,ptr b),(4,.int .i64 pl),(5,ptr r)]) (fun y => [Tb r y.1.1,RdB b y.1.2 (pl + y.1.1.length)]) ?_ ?_
  · have e0 : tcells [] = [.int .u8 0,.int .u8 0,.int .u8 0,.int .u8 0,.int .u8 0,.int .u8 0,.int .u8 0,.int .u8 0,.int .u8 0,.int .u8 0,.int .i64 0] := by unfold tcells by8;rfl
    refine xQ (L' := [Tb r [],RdB b bs (pl + (([] : List UInt8).length : Int))]) ?_ ?_
    · show Ent _ [pt r (.cells (tcells []).toArray 283 (0,0)),RdB b bs (pl + (([] : List UInt8).length : Int))]
      rw [e0,show pl + (([] : List UInt8).length : Int) = pl from by simp]
      exact Ent.sel
    refine xU (β := { y : List UInt8 × List UInt8 // GInv bs y.1 y.2 }) (fun _ => [(0,ptr b),(4,.int .i64 pl),(5,ptr r)]) (fun _ => []) (fun y => [Tb r y.1.1,RdB b y.1.2 (pl + y.1.1.length)]) (fun y => 10 - y.1.1.length) ⟨([],bs),ginv_nil bs⟩ ?_ rfl Ent.sel ?_
    · (repeat (first|exact zM _|refine zI rfl ?_))
    rintro ⟨⟨ts,rs⟩,hi⟩
    dsimp only at hi ⊢
    have hlen := hi.hl
    have h10 := hi.h10
    have hn := tcells_n h10
    refine zG ?_
    refine uI (α := { _u : Unit // ts.length < 10 ∧ endsB ts = false }) (fun _ => [(0,ptr b),(4,.int .i64 pl),(5,ptr r)]) (fun _ => [Tb r ts,RdB b rs (pl + ts.length)]) ?_ ?_
    · rcases List.eq_nil_or_concat ts with rfl | ⟨us,x,rfl⟩
      · repeat (first|(first|refine zB ?_|refine zE ?_|refine zG ?_|refine zP ?_|refine zL rfl ?_)|(first|((first|refine zA rfl ?_|refine zZ rfl rfl ?_);first|refine wU rfl (wB hn) rfl ?_|refine zD rfl rfl ?_|refine zF rfl rfl ?_|refine yA rfl rfl rfl ?_|refine JO_lss rfl rfl rfl ?_|refine JO_eqI rfl rfl rfl ?_)|refine yU rfl rfl rfl ?_))
        exact ⟨⟨(),by decide,rfl⟩,by (repeat (first|exact zM _|refine zI rfl ?_)),rfl,Ent.sel⟩
      · rw [List.concat_eq_append] at *
        have hl1 : (us ++ [x]).length = us.length + 1 := by simp
        rw [show ((us ++ [x]).length : Int) = ((us.length + 1 : Nat) : Int) from by simp] at hn
        have hz : ((us.length + 1 : Nat) : Int) ≠ 0 := by omega
        repeat (first|(first|refine zB ?_|refine zG ?_)|(first|((first|refine zA rfl ?_);first|refine wU rfl (wB hn) rfl ?_|refine zD rfl rfl ?_|refine zF rfl rfl ?_|refine JO_lss rfl rfl rfl ?_)))
        refine JL_guardP rfl rfl rfl (fun hlt => ?_) (fun hge => ?_)
        · repeat (first|(first|refine zE ?_)|(first|((first|refine zA rfl ?_|refine zZ rfl rfl ?_);first|refine wU rfl (wB hn) rfl ?_|refine JOq (JQ_eqIF rfl rfl hz) rfl ?_|refine zD rfl rfl ?_|refine zF rfl rfl ?_|refine yA rfl rfl rfl ?_|refine yJ rfl rfl rfl ?_|refine JO_geq rfl rfl rfl ?_|refine zN rfl (last_c r us x (by omega)) rfl ?_)))
          refine J_condP rfl (fun h128 => ?_) (fun h128 => ?_)
          · repeat (first|(first|refine zP ?_)|(first|((first|refine zA rfl ?_);first|refine zD rfl rfl ?_)))
            exact ⟨⟨(),by omega,by rw [ends_concat];simp;omega⟩,by (repeat (first|exact zM _|refine zI rfl ?_)),rfl,Ent.sel⟩
          · repeat (first|(first|refine xA ?_)|(first|((first|refine zA rfl ?_);first|refine zD rfl rfl ?_)))
            exact ⟨⟨(us ++ [x],rs),hi,by simp,hi.done (.inl (by rw [ends_concat];simp;omega))⟩,by (repeat (first|exact zM _|refine zI rfl ?_)),rfl,Ent.sel⟩
        · repeat (first|(first|refine zE ?_|refine zJ rfl ?_|refine xA ?_)|(first|((first|refine zA rfl ?_);first|refine yJ rfl rfl rfl ?_)|refine yU rfl rfl rfl ?_|refine JL_passN rfl rfl rfl ?_))
          exact ⟨⟨(us ++ [x],rs),hi,by simp,hi.done (.inr (by omega))⟩,by (repeat (first|exact zM _|refine zI rfl ?_)),rfl,Ent.sel⟩
    · rintro ⟨_,hlt,hne⟩
      cases rs with
      | nil =>
        have hu : uA bs pl = ⟨0,3,pl + bs.length,[],pl + bs.length⟩ := by unfold uA;rw [hi.short hne hlt]
        rw [hu]
        simp only [List.length_nil,Nat.add_zero] at hlen
        rw [hlen]
        have h1 := byte_shortB b (pl + (bs.length : Int))
        repeat (first|(first|refine zB ?_|refine zE ?_|refine zG ?_|refine zK ?_|refine zL rfl ?_|refine zV ?_)|(first|((first|refine zA rfl ?_);first|refine JO_callFV rfl h1 rfl (fun e1 => ?_)|refine JOq (JQ_neIf1 rfl) rfl ?_|refine zD rfl rfl ?_|refine zC rfl rfl ?_|refine zT rfl rfl rfl ?_)))
        exact ret_two rfl rfl rfl (xH e1) trivial rfl ((Ent.sel (K := [Ft e1 3 (pl + (bs.length : Int)),RdB b [] (pl + (bs.length : Int))])).trans (tH (by decide)))
      | cons c rs =>
        have h1 := byte_B b c rs (pl + (ts.length : Int)) (by simp only [List.length_cons] at hlen;omega)
        repeat (first|(first|refine zB ?_|refine zE ?_|refine zG ?_|refine zK ?_|refine zP ?_|refine zJ rfl ?_)|(first|((first|refine zA rfl ?_);first|refine JOq (uJ rfl) rfl ?_|refine wU rfl (wB hn) rfl ?_|refine JOq (JQ_indexPA rfl rfl hlt) rfl ?_|refine zD rfl rfl ?_|refine zC rfl rfl ?_|refine zF rfl rfl ?_|refine zT rfl rfl rfl ?_|refine zN rfl (h1) rfl ?_)))
        rw [show 0 + ts.length * 1 = ts.length from by omega]
        refine zA rfl (JO_storeS rfl rfl (by rw [tcells_len h10];omega) rfl rfl ?_)
        repeat (first|(first|refine zB ?_|refine zE ?_)|(first|((first|refine zA rfl ?_);first|refine wU rfl (wB (tcells_mid hlt)) rfl ?_|refine yZ (b := 1) rfl rfl (by omega) rfl ?_|refine JO_storeS rfl rfl (by rw [List.length_set,tcells_len h10];decide) rfl rfl ?_|refine zF rfl rfl ?_)))
        refine ⟨⟨(ts ++ [c],rs),hi.step hne hlt⟩,by simp only [List.length_append,List.length_singleton];omega,by (repeat (first|exact zM _|refine zI rfl ?_)),rfl,?_⟩
        dsimp only
        rw [tcells_put hlt,show pl + ((ts ++ [c]).length : Int) = pl + (ts.length : Int) + 1 from by simp;omega]
        exact Ent.sel
  · rintro ⟨⟨ts,rs⟩,hi,hne,hg⟩
    dsimp only at hi hne hg ⊢
    have hlen := hi.hl
    have h10 := hi.h10
    rcases List.eq_nil_or_concat ts with rfl | ⟨us,x,rfl⟩
    · exact absurd rfl hne
    rw [List.concat_eq_append] at *
    have hl1 : (us ++ [x]).length = us.length + 1 := by simp
    repeat (first|(first|refine zB ?_|refine zE ?_|refine zG ?_)|(first|((first|refine zA rfl ?_);first|refine zN rfl (wrong_c r us x (by omega)) rfl ?_)))
    refine J_cond rfl (fun hw => ?_) (fun hw => ?_)
    · have hu : uA bs pl = ⟨0,5,pl,rs,pl + ((us ++ [x]).length : Nat)⟩ := by unfold uA;rw [hg];simp [hw]
      rw [hu]
      repeat (first|(first|refine zB ?_|refine zE ?_|refine zG ?_|refine zV ?_)|(first|((first|refine zA rfl ?_);first|refine yK rfl (lfault_c 5 pl) rfl (fun q _ => ?_)|refine zD rfl rfl ?_|refine zC rfl rfl ?_)))
      exact ret_two rfl rfl rfl (xH q) trivial rfl ((Ent.sel (K := [Ft q 5 pl,RdB b rs (pl + ((us ++ [x]).length : Int))])).trans (tH (by decide)))
    · have hu : uA bs pl = ⟨valL (us ++ [x]),0,0,rs,pl + ((us ++ [x]).length : Nat)⟩ := by unfold uA;rw [hg];simp [hw]
      rw [hu]
      repeat (first|(first|refine zB ?_|refine zE ?_|refine zG ?_|refine zP ?_|refine zV ?_)|(first|((first|refine zA rfl ?_);first|refine zC rfl rfl ?_|refine zN rfl (number_c r (us ++ [x]) h10 (val_fits h10 hw)) rfl ?_)))
      exact ret_two rfl rfl rfl .nilIface trivial rfl ((Ent.sel (K := [RdB b rs (pl + ((us ++ [x]).length : Int))])).trans er_none)
end Go.Proofs.YtickblndgihoeaaGreatDoor

/- Comparisons whose outcome is known. -/
namespace Go.Sp
open Go.RowKit
section
variable {P : Program} {N : Nat} {E : Env} {D : List Deferred} {L : List HP}
variable {d : Option Nat} {ty : TypeId} {pos : String} {after : Array Edge} {g : Option (Nat × Bool)}
variable {x y : Operand} {k : IntKind} {t u : TypeId} {m n : Int}
theorem yH (hx : ev E x = some (.int k m)) (hy : ev E y = some (.int k n)) (h : m < n) : JQ P N ⟨d,.binOp .lss t x y u,ty,pos,after,g⟩ E D L (.bool true) := by
  have := JQ_lss (P := P) (N := N) (D := D) (L := L) (d := d) (ty := ty) (pos := pos) (after := after) (g := g) (t := t) (u := u) hx hy
  rwa [decide_eq_true h] at this
theorem yS (hx : ev E x = some (.int k m)) (hy : ev E y = some (.int k n)) (h : ¬ m < n) : JQ P N ⟨d,.binOp .lss t x y u,ty,pos,after,g⟩ E D L (.bool false) := by
  have := JQ_lss (P := P) (N := N) (D := D) (L := L) (d := d) (ty := ty) (pos := pos) (after := after) (g := g) (t := t) (u := u) hx hy
  rwa [decide_eq_false h] at this
theorem JQ_leqT (hx : ev E x = some (.int k m)) (hy : ev E y = some (.int k n)) (h : m ≤ n) : JQ P N ⟨d,.binOp .leq t x y u,ty,pos,after,g⟩ E D L (.bool true) := by
  have := JQ_leq (P := P) (N := N) (D := D) (L := L) (d := d) (ty := ty) (pos := pos) (after := after) (g := g) (t := t) (u := u) hx hy
  rwa [decide_eq_true h] at this
theorem JQ_leqF (hx : ev E x = some (.int k m)) (hy : ev E y = some (.int k n)) (h : ¬ m ≤ n) : JQ P N ⟨d,.binOp .leq t x y u,ty,pos,after,g⟩ E D L (.bool false) := by
  have := JQ_leq (P := P) (N := N) (D := D) (L := L) (d := d) (ty := ty) (pos := pos) (after := after) (g := g) (t := t) (u := u) hx hy
  rwa [decide_eq_false h] at this
theorem JQ_gtrT (hx : ev E x = some (.int k m)) (hy : ev E y = some (.int k n)) (h : n < m) : JQ P N ⟨d,.binOp .gtr t x y u,ty,pos,after,g⟩ E D L (.bool true) := by
  have := JQ_gtr (P := P) (N := N) (D := D) (L := L) (d := d) (ty := ty) (pos := pos) (after := after) (g := g) (t := t) (u := u) hx hy
  rwa [decide_eq_true h] at this
theorem JQ_gtrF (hx : ev E x = some (.int k m)) (hy : ev E y = some (.int k n)) (h : ¬ n < m) : JQ P N ⟨d,.binOp .gtr t x y u,ty,pos,after,g⟩ E D L (.bool false) := by
  have := JQ_gtr (P := P) (N := N) (D := D) (L := L) (d := d) (ty := ty) (pos := pos) (after := after) (g := g) (t := t) (u := u) hx hy
  rwa [decide_eq_false h] at this
theorem JQ_geqT (hx : ev E x = some (.int k m)) (hy : ev E y = some (.int k n)) (h : n ≤ m) : JQ P N ⟨d,.binOp .geq t x y u,ty,pos,after,g⟩ E D L (.bool true) := by
  have := JQ_geq (P := P) (N := N) (D := D) (L := L) (d := d) (ty := ty) (pos := pos) (after := after) (g := g) (t := t) (u := u) hx hy
  rwa [decide_eq_true h] at this
theorem JQ_geqF (hx : ev E x = some (.int k m)) (hy : ev E y = some (.int k n)) (h : ¬ n ≤ m) : JQ P N ⟨d,.binOp .geq t x y u,ty,pos,after,g⟩ E D L (.bool false) := by
  have := JQ_geq (P := P) (N := N) (D := D) (L := L) (d := d) (ty := ty) (pos := pos) (after := after) (g := g) (t := t) (u := u) hx hy
  rwa [decide_eq_false h] at this
theorem yT (hx : ev E x = some (.int k m)) (hy : ev E y = some (.int k n)) (h : m = n) : JQ P N ⟨d,.binOp .eql t x y u,ty,pos,after,g⟩ E D L (.bool true) := by
  have := JQ_eqI (P := P) (N := N) (D := D) (L := L) (d := d) (ty := ty) (pos := pos) (after := after) (g := g) (t := t) (u := u) hx hy
  rwa [decide_eq_true h] at this
theorem yL (hx : ev E x = some (.int k m)) (hy : ev E y = some (.int k n)) (h : ¬ m = n) : JQ P N ⟨d,.binOp .eql t x y u,ty,pos,after,g⟩ E D L (.bool false) := by
  have := JQ_eqI (P := P) (N := N) (D := D) (L := L) (d := d) (ty := ty) (pos := pos) (after := after) (g := g) (t := t) (u := u) hx hy
  rwa [decide_eq_false h] at this
theorem vS (hx : ev E x = some (.int k m)) (hy : ev E y = some (.int k n)) (h : m ≠ n) : JQ P N ⟨d,.binOp .neq t x y u,ty,pos,after,g⟩ E D L (.bool true) := by
  have := JQ_neI (P := P) (N := N) (D := D) (L := L) (d := d) (ty := ty) (pos := pos) (after := after) (g := g) (t := t) (u := u) hx hy
  rwa [decide_eq_true h] at this
theorem vW (hx : ev E x = some (.int k m)) (hy : ev E y = some (.int k n)) (h : ¬ m ≠ n) : JQ P N ⟨d,.binOp .neq t x y u,ty,pos,after,g⟩ E D L (.bool false) := by
  have := JQ_neI (P := P) (N := N) (D := D) (L := L) (d := d) (ty := ty) (pos := pos) (after := after) (g := g) (t := t) (u := u) hx hy
  rwa [decide_eq_false h] at this
end
end Go.Sp

/- Layer 2: the program takes a whole number,a small one. -/
namespace Go.Proofs.YtickblndgihoeaaGreatDoor
open Go Go.Sp
section
variable {N : Nat} {rd : Option Nat} {E : Env} {D : List Deferred} {L : List HP} {Q : uF}
theorem JL_er {all : Array Oper} {i : Nat} {rest : List Oper} {v : Value} {c a : Int} (h0 : c = 0 → a = 0 → v = .nilIface → JL Tryz.prog N rd all i rest E D L Q) (h1 : ∀ q,c ≠ 0 → v = xH q → JL Tryz.prog N rd all i rest E D (Ft q c a :: L) Q) :
    JL Tryz.prog N rd all i rest E D (Er v c a :: L) Q := fun F ac w hr hs hd => by
  obtain ⟨k,⟨a1,b1,c1,d1,e1,f1,g1⟩,m⟩ := hs.swap
  rcases f1 with ⟨h2,h3,h4⟩ | ⟨h2,q,h3,h4⟩
  · exact h0 h2 h3 h4 F ac w hr ⟨k,g1.le e1,m⟩ hd
  · exact h1 q h2 h3 F ac w hr (Sat.swap ⟨k,⟨a1,b1,c1,d1,e1,h4,g1⟩,m⟩) hd
end
theorem uA_a (bs : List UInt8) (pl : Int) : (uA bs pl).c = 0 → (uA bs pl).a = 0 := by
  unfold uA
  split
  · intro h;simp at h
  · split
    · intro h;simp at h
    · intro _;rfl
def smA (bs : List UInt8) (pl most : Int) : Nat × Int × Int := if (uA bs pl).c ≠ 0 then (0,(uA bs pl).c,(uA bs pl).a) else if most < 0 ∨ most < ((uA bs pl).n : Int) then (0,4,pl) else ((uA bs pl).n,0,0)
attribute [local irreducible] callFunc Go.method J JL JO Ct JG JM JQ JQ0 JS CtD xB RdB Er by8 uA ibits
theorem s_E (b : Nat) (bs : List UInt8) (pl : Int) (hpl : 0 ≤ pl ∧ pl + bs.length ≤ 1000000) :
    Ct Tryz.prog 171 #[ptr b] [RdB b bs pl] (RetE (fun _ : Value => True) (fun v => .tuple #[.int .i64 (uB (uA bs pl).n),v]) (fun v => [Er v (uA bs pl).c (uA bs pl).a,RdB b (uA bs pl).rest (uA bs pl).pl])) := by
  have hu := u_E b bs pl hpl
  have hn := (uA_ok bs pl).1
  generalize uA bs pl = A at *
  refine yE (vs := [_]) Tryz.func171 rfl Tryz.ntmps171 (by simp) ?_
  by_cases h2 : A.n % 2 = 0
  · have hz : uB A.n = ((A.n / 2 : Nat) : Int) := by simp [uB,h2]
    rw [hz]
    repeat (first|(first|refine zB ?_|refine zE ?_|refine zG ?_|refine zV ?_)|(first|((first|refine zA rfl ?_);first|refine yK rfl hu rfl (fun v _ => ?_)|refine JOq (JQ_shrF (s := 1) 2 rfl rfl (by decide) rfl) rfl ?_|refine JOq (JQ_bitsV 0 (.inl rfl) rfl rfl (by rw [and64_1,h2];rfl)) rfl ?_|refine JOq (yX (a := A.n / 2) rfl (vF (by omega))) rfl ?_|refine JOq (yX (a := 0) rfl (vF (by omega))) rfl ?_|refine JOq (JQ_neg 0 rfl (by decide)) rfl ?_|refine JOq (JQ_bitsV _ (.inr (.inr (.inl rfl))) rfl rfl (xor_0 (z := ((A.n / 2 : Nat) : Int)) (by omega))) rfl ?_|refine zD rfl rfl ?_|refine zC rfl rfl ?_|refine zT rfl rfl rfl ?_)))
    exact ret_two rfl rfl rfl v trivial rfl Ent.sel
  · have h3 : A.n % 2 = 1 := by omega
    have hz : uB A.n = -((A.n / 2 : Nat) : Int) - 1 := by simp [uB,h3]
    rw [hz]
    repeat (first|(first|refine zB ?_|refine zE ?_|refine zG ?_|refine zV ?_)|(first|((first|refine zA rfl ?_);first|refine yK rfl hu rfl (fun v _ => ?_)|refine JOq (JQ_shrF (s := 1) 2 rfl rfl (by decide) rfl) rfl ?_|refine JOq (JQ_bitsV 1 (.inl rfl) rfl rfl (by rw [and64_1,h3];rfl)) rfl ?_|refine JOq (yX (a := A.n / 2) rfl (vF (by omega))) rfl ?_|refine JOq (yX (a := 1) rfl (vF (by omega))) rfl ?_|refine JOq (JQ_neg (-1) rfl (by decide)) rfl ?_|refine JOq (JQ_bitsV _ (.inr (.inr (.inl rfl))) rfl rfl (xor_m1 (z := ((A.n / 2 : Nat) : Int)) (by omega))) rfl ?_|refine zD rfl rfl ?_|refine zC rfl rfl ?_|refine zT rfl rfl rfl ?_)))
    exact ret_two rfl rfl rfl v trivial rfl Ent.sel
theorem sm_E (b : Nat) (bs : List UInt8) (pl most : Int) (hpl : 0 ≤ pl ∧ pl + bs.length ≤ 1000000) (hm : most ≤ 9223372036854775807) :
    Ct Tryz.prog 104 #[ptr b,.int .i64 most] [RdB b bs pl] (RetE (fun _ : Value => True) (fun v => .tuple #[.int .i64 (((smA bs pl most).1 : Nat) : Int),v]) (fun v => [Er v (smA bs pl most).2.1 (smA bs pl most).2.2,RdB b (uA bs pl).rest (uA bs pl).pl])) := by
  have hp := place_B b bs pl
  have hu := u_E b bs pl hpl
  have ha := uA_a bs pl
  unfold smA
  generalize uA bs pl = A at *
  refine yE (vs := [_,_]) Tryz.func104 rfl Tryz.ntmps104 (by simp) ?_
  repeat (first|(first|refine zB ?_|refine zE ?_|refine zG ?_|refine zK ?_)|(first|((first|refine zA rfl ?_);first|refine yK rfl hu rfl (fun v _ => ?_)|refine zD rfl rfl ?_|refine zC rfl rfl ?_|refine zT rfl rfl rfl ?_|refine zN rfl (hp) rfl ?_)))
  refine JL_er (fun h0 h00 hv => ?_) (fun q h0 hv => ?_)
  · subst hv
    rw [h0]
    by_cases h1 : most < 0
    · simp only [h1,true_or,if_true,ne_eq,not_true_eq_false,if_false]
      repeat (first|(first|refine zB ?_|refine zE ?_|refine zG ?_|refine zL rfl ?_|refine zJ rfl ?_|refine zV ?_)|(first|((first|refine zA rfl ?_);first|refine JOq (uJ rfl) rfl ?_|refine yK rfl (lfault_c 4 pl) rfl (fun q _ => ?_)|refine JOq (yH rfl rfl (by omega)) rfl ?_|refine zD rfl rfl ?_|refine zC rfl rfl ?_|refine yA rfl rfl rfl ?_)|refine yU rfl rfl rfl ?_))
      exact ret_two rfl rfl rfl (xH q) trivial rfl ((Ent.sel (K := [Ft q 4 pl,RdB b A.rest A.pl])).trans (tH (by decide)))
    · obtain ⟨m,rfl⟩ : ∃ m : Nat,most = (m : Int) := ⟨most.toNat,by omega⟩
      by_cases h2 : ((m : Nat) : Int) < (A.n : Int)
      · simp only [h1,h2,false_or,if_true,ne_eq,not_true_eq_false,if_false]
        repeat (first|(first|refine zB ?_|refine zE ?_|refine zG ?_|refine zL rfl ?_|refine zJ rfl ?_|refine zV ?_)|(first|((first|refine zA rfl ?_|refine zZ rfl rfl ?_);first|refine JOq (uJ rfl) rfl ?_|refine yK rfl (lfault_c 4 pl) rfl (fun q _ => ?_)|refine JOq (yX (a := m) rfl (xX (by omega))) rfl ?_|refine JOq (yS rfl rfl (by omega)) rfl ?_|refine JOq (JQ_gtrT rfl rfl (by omega)) rfl ?_|refine zD rfl rfl ?_|refine zC rfl rfl ?_|refine yJ rfl rfl rfl ?_)))
        exact ret_two rfl rfl rfl (xH q) trivial rfl ((Ent.sel (K := [Ft q 4 pl,RdB b A.rest A.pl])).trans (tH (by decide)))
      · simp only [h1,h2,or_self,ne_eq,not_true_eq_false,if_false]
        repeat (first|(first|refine zB ?_|refine zE ?_|refine zG ?_|refine zP ?_|refine zJ rfl ?_|refine zV ?_)|(first|((first|refine zA rfl ?_|refine zZ rfl rfl ?_);first|refine JOq (uJ rfl) rfl ?_|refine JOq (yX (a := m) rfl (xX (by omega))) rfl ?_|refine JOq (yX (a := A.n) rfl (vF (by omega))) rfl ?_|refine JOq (yS rfl rfl (by omega)) rfl ?_|refine JOq (JQ_gtrF rfl rfl (by omega)) rfl ?_|refine zD rfl rfl ?_|refine zC rfl rfl ?_|refine yJ rfl rfl rfl ?_)))
        exact ret_two rfl rfl rfl .nilIface trivial rfl ((Ent.sel (K := [RdB b A.rest A.pl])).trans er_none)
  · subst hv
    simp only [h0,ne_eq,not_false_eq_true,if_true]
    repeat (first|(first|refine zB ?_|refine zE ?_|refine zG ?_|refine zL rfl ?_|refine zV ?_)|(first|((first|refine zA rfl ?_);first|refine JOq (JQ_neIf1 rfl) rfl ?_|refine zD rfl rfl ?_|refine zC rfl rfl ?_)))
    exact ret_two rfl rfl rfl (xH q) trivial rfl ((Ent.sel (K := [Ft q A.c A.a,RdB b A.rest A.pl])).trans (tH h0))
end Go.Proofs.YtickblndgihoeaaGreatDoor

/- Layer 1: a writer by its bytes alone. -/
namespace Go.Proofs.YtickblndgihoeaaGreatDoor
open Go Go.Sp
def WrB (b : Nat) (bs : List UInt8) : HP := fun h => ∃ v : Value,Star [Wr b v,yC 5 1 v bs.length (by8 bs)] h
theorem ct_wrb {f : FuncId} {args : Array Value} {b : Nat} {bs : List UInt8} {R : Ending → List HP → Prop} (h : ∀ v,Ct Tryz.prog f args [Wr b v,yC 5 1 v bs.length (by8 bs)] R) : Ct Tryz.prog f args [WrB b bs] R := fun F w hs => by
  obtain ⟨k,⟨a1,b1,c1,d1,e1,⟨v,f1⟩,g1⟩,m⟩ := hs.swap
  have h1 : Sat w (Wr b v :: yC 5 1 v bs.length (by8 bs) :: [F]) := (Sat.fold (L1 := [Wr b v,yC 5 1 v bs.length (by8 bs)])).2 ⟨k,⟨a1,b1,c1,d1,e1,f1,g1⟩,m⟩
  exact h v F w (h1.perm ((List.Perm.cons _ (List.Perm.swap _ _ _)).trans (List.Perm.swap _ _ _)))
theorem wrb_close {b : Nat} {v : Value} {bs : List UInt8} {L : List HP} {n : Nat} {cs : List Value} (hn : n = bs.length) (hc : cs = by8 bs) : Ent (Wr b v :: yC 5 1 v n cs :: L) (WrB b bs :: L) := fun F w hs => by
  subst hn;subst hc
  have h1 : Sat w (Wr b v :: yC 5 1 v bs.length (by8 bs) :: F :: L) := hs.perm ((List.Perm.swap _ _ _).trans (List.Perm.cons _ (List.Perm.swap _ _ _)))
  exact (((Sat.fold (L1 := [Wr b v,yC 5 1 v bs.length (by8 bs)])).1 h1).conv fun k hk => ⟨v,hk⟩).swap
theorem by8_append (a b : List UInt8) : by8 (a ++ b) = by8 a ++ by8 b := by simp [by8]
theorem newwriter_B : Ct Tryz.prog 37 #[] [] (RetE (fun _ : Nat => True) ptr (fun b => [WrB b []])) := Ct.post newwriter_c fun _ _ ⟨b,hb,he,hL⟩ => ⟨_,by rw [hL];exact wrb_close (bs := []) rfl rfl,b,hb,he,rfl⟩
theorem wbyte_B (b : Nat) (bs : List UInt8) (x : UInt8) (hb : bs.length ≤ 1000000) : Ct Tryz.prog 40 #[ptr b,.int .u8 ((x.toNat : Nat) : Int)] [WrB b bs] (wF (.tuple #[]) [WrB b (bs ++ [x])]) :=
  ct_wrb fun v => Ct.post (wbyte_c b v bs x hb) fun _ _ ⟨v',_,he,hL⟩ => ⟨_,by rw [hL];exact wrb_close (bs := bs ++ [x]) (by simp) (by rw [by8_append];rfl),he,rfl⟩
theorem wput_B (b : Nat) (bs xs : List UInt8) (hb : bs.length + xs.length ≤ 140737488355328) : Ct Tryz.prog 38 #[ptr b,str xs] [WrB b bs] (wF (.tuple #[]) [WrB b (bs ++ xs)]) :=
  ct_wrb fun v => Ct.post (wput_c b v bs xs hb) fun _ _ ⟨v',_,he,hL⟩ => ⟨_,by rw [hL];exact wrb_close (bs := bs ++ xs) (by simp) (by rw [by8_append]),he,rfl⟩
theorem wtext_B (b : Nat) (bs : List UInt8) : Ct Tryz.prog 42 #[ptr b] [WrB b bs] (wF (str bs) [WrB b bs]) :=
  ct_wrb fun v => Ct.post (wtext_c b v bs) fun _ _ ⟨he,hL⟩ => ⟨_,by rw [hL];exact wrb_close rfl rfl,he,rfl⟩
theorem own_slice {e sz : Nat} {v : Value} {n : Nat} {cs : List Value} {h : Part} (hk : yC e sz v n cs h) : ∃ p cap,v = .slice p n cap := by
  obtain ⟨_,⟨rfl,rfl⟩ | ⟨b,sp,cap,rfl,_⟩⟩ := hk
  · exact ⟨none,0,rfl⟩
  · exact ⟨_,cap,rfl⟩
end Go.Proofs.YtickblndgihoeaaGreatDoor

/- Layer 2: the document takes a number. -/
namespace Go.Proofs.YtickblndgihoeaaGreatDoor
open Go Go.Sp
theorem val_drop_le (ts : List UInt8) (i : Nat) : valL (ts.drop i) ≤ valL ts := by
  induction ts generalizing i with
  | nil => simp
  | cons b ts ih =>
    cases i with
    | zero => simp
    | succ i => simp only [List.drop_succ_cons,valL];have := ih i;omega
theorem val_drop {ts : List UInt8} {i : Nat} {c : UInt8} (h : ts[i]? = some c) : valL (ts.drop i) = valL (ts.drop (i + 1)) * 128 + c.toNat % 128 := by
  obtain ⟨h1,h2⟩ := List.getElem?_eq_some_iff.1 h
  rw [List.drop_eq_getElem_cons h1,h2]
  simp only [valL]
  omega
attribute [local irreducible] callFunc Go.method J JL JO Ct JG JM JQ JQ0 JS CtD xB DrB by8 ibits
set_option maxRecDepth 4000 in
set_option maxHeartbeats 4000000 in
theorem du_B (d : Nat) (bs : List UInt8) (pl : Int) (_ : 0 ≤ pl ∧ pl + bs.length ≤ 1000000) :
    Ct Tryz.prog 161 #[ptr d] [DrB d bs pl] (wF (.tuple #[.int .u64 (((uA bs pl).n : Nat) : Int),uC (uA bs pl).c (uA bs pl).a]) [DrB d (uA bs pl).rest (uA bs pl).pl]) := by
  have hp := dplace_B d bs pl
  refine yE (vs := [_]) Tryz.func161 rfl Tryz.ntmps161 (by simp) ?_
  repeat (first|(first|refine zB ?_|refine zE ?_|refine zG ?_|refine zK ?_)|(first|((first|refine zA rfl ?_);first|refine zD rfl rfl ?_|refine zC rfl rfl ?_|refine zS rfl (fun r => ?_)|refine zN rfl (hp) rfl ?_)))
  revert r
  intro r0
  refine J_inX (α := { y : Value × List UInt8 × List UInt8 // GInv bs y.2.1 y.2.2 ∧ y.2.1 ≠ [] ∧ grab 10 bs = some y.2 }) (fun y => [(0,ptr d),(3,ptr r0),(4,.int .i64 pl),(5,y.1.1)]) (fun y => [yC 5 1 y.1.1 y.1.2.1.length (by8 y.1.2.1),pt r0 (.cells #[.int .i64 0,.int .i64 0] 87 (0,0)),DrB d y.1.2.2 (pl + y.1.2.1.length)]) ?_ ?_
  · have e0 : by8 [] = [] := by unfold by8;rfl
    refine xQ (L' := [yC 5 1 (.slice none 0 0) 0 (by8 []),pt r0 (.cells #[.int .i64 0,.int .i64 0] 87 (0,0)),DrB d bs (pl + (([] : List UInt8).length : Int))]) ?_ ?_
    · rw [e0,show pl + (([] : List UInt8).length : Int) = pl from by simp]
      exact (Ent.cons (A := yC 5 1 (.slice none 0 0) 0 []) fun w M h => h.own_nil).trans Ent.sel
    refine xU (β := { y : Value × List UInt8 × List UInt8 // GInv bs y.2.1 y.2.2 ∧ endsB y.2.1 = false }) (fun y => [(0,ptr d),(3,ptr r0),(4,.int .i64 pl),(5,y.1.1)]) (fun _ => []) (fun y => [yC 5 1 y.1.1 y.1.2.1.length (by8 y.1.2.1),pt r0 (.cells #[.int .i64 0,.int .i64 0] 87 (0,0)),DrB d y.1.2.2 (pl + y.1.2.1.length)])
      (fun y => 10 - y.1.2.1.length) ⟨(.slice none 0 0,[],bs),ginv_nil bs,rfl⟩ ?_ rfl (Ent.refl _) ?_
    · (repeat (first|exact zM _|refine zI rfl ?_))
    rintro ⟨⟨v,ts,rs⟩,hi,hne⟩
    dsimp only at hi hne ⊢
    have hlen := hi.hl
    have h10 := hi.h10
    refine wE (φ := ∃ p cap,v = .slice p ts.length cap) (fun F w hs => hs.tail.out fun _ hk => own_slice hk) fun ⟨p,cap,hv⟩ => ?_
    subst hv
    repeat (first|(first|refine zB ?_|refine zE ?_|refine zG ?_)|(first|((first|refine zA rfl ?_);first|refine zD rfl rfl ?_|refine yF rfl rfl ?_|refine JO_lss rfl rfl rfl ?_)))
    refine J_condP rfl (fun hlt => ?_) (fun hge => ?_)
    rotate_left
    · repeat (first|(first|refine xA ?_)|(first|((first|refine zA rfl ?_);first|refine zD rfl rfl ?_)))
      refine ⟨⟨(.slice p ts.length cap,ts,rs),hi,?_,hi.done (.inr (by omega))⟩,by (repeat (first|exact zM _|refine zI rfl ?_)),rfl,Ent.sel⟩
      rintro rfl
      simp at hge
    cases rs with
    | nil =>
      have hu : uA bs pl = ⟨0,3,pl + bs.length,[],pl + bs.length⟩ := by unfold uA;rw [hi.short hne (by omega)]
      rw [hu]
      simp only [List.length_nil,Nat.add_zero] at hlen
      rw [hlen]
      have h1 : Ct Tryz.prog 123 #[ptr d] [DrB d [] (pl + (bs.length : Int))] (wF (.tuple #[.int .u8 0,uC 3 (pl + (bs.length : Int))]) [DrB d [] (pl + (bs.length : Int))]) := dbyte_B d [] (pl + (bs.length : Int))
      repeat (first|(first|refine zB ?_|refine zE ?_|refine zG ?_|refine zK ?_|refine zP ?_|refine zL rfl ?_)|(first|((first|refine zA rfl ?_);first|refine JOq (vS rfl rfl (by omega)) rfl ?_|refine zD rfl rfl ?_|refine zC rfl rfl ?_|refine zF rfl rfl ?_|refine zH rfl rfl ?_|refine zT rfl rfl rfl ?_|refine zS rfl (fun r => ?_)|refine zO rfl rfl (by rfl) (by rfl) (by first | decide | simp [Value.oneCell']) rfl ?_|refine zN rfl (h1) rfl ?_)))
      refine J_calm ?_
      refine J_regionGS [pt r (.cells #[.int .i64 3,.int .i64 (pl + (bs.length : Int))] 87 (0,0))] ?_
      repeat (first|refine JG_n rfl rfl rfl (by kernel_rfl) (by kernel_rfl) rfl Ent.sel (by first|exact xF [.int .i64 3,.int .i64 (pl + (bs.length : Int))] rfl (fun i u hu => wB (by rw [Nat.zero_add];exact hu)) rfl|exact vT rfl) ?_)
      refine JG_one 2 rfl rfl (by kernel_rfl) xC (zO rfl rfl (by rfl) (by rfl) (by simp [Value.oneCell']) rfl ⟨Ent.sel,?_⟩)
      repeat (first|refine tA rfl ?_)
      repeat (first|(first|refine zV ?_)|(first|((first|refine zA rfl ?_);first|refine zD rfl rfl ?_)))
      exact ⟨rfl,_,res_tcW (n := 2) (cs := [.int .i64 3,.int .i64 (pl + (bs.length : Int))]) rfl rfl rfl rfl,_,Ent.sel,rfl,rfl⟩
    | cons c rs =>
      have hcn := c.toNat_lt
      have h1 : Ct Tryz.prog 123 #[ptr d] [DrB d (c :: rs) (pl + (ts.length : Int))] (wF (.tuple #[.int .u8 ((c.toNat : Nat) : Int),uC 0 0]) [DrB d rs (pl + (ts.length : Int) + 1)]) := dbyte_B d (c :: rs) (pl + (ts.length : Int))
      repeat (first|(first|refine zB ?_|refine zE ?_|refine zG ?_|refine zK ?_|refine zP ?_|refine zJ rfl ?_)|(first|((first|refine zA rfl ?_);first|refine JOq (vW rfl rfl (by omega)) rfl ?_|refine zD rfl rfl ?_|refine zC rfl rfl ?_|refine zF rfl rfl ?_|refine zH rfl rfl ?_|refine yP rfl rfl rfl (by decide) rfl (fun r => ?_)|refine zT rfl rfl rfl ?_|refine zS rfl (fun r => ?_)|refine zO rfl rfl (by rfl) (by rfl) (by first | decide | simp [Value.oneCell']) rfl ?_|refine zN rfl (h1) rfl ?_)))
      refine zA rfl (wM (sz := 1) (n := ts.length) (m := 1) (news := [.int .u8 ((c.toNat : Nat) : Int)]) rfl rfl wL rfl (by decide) rfl (by simp [Value.oneCell']) (by omega) (by decide) rfl fun v' hv' => ?_)
      rw [show by8 ts ++ [Value.int .u8 ((c.toNat : Nat) : Int)] = by8 (ts ++ [c]) from by rw [by8_append];unfold by8;rfl,show pl + (ts.length : Int) + 1 = pl + ((ts ++ [c]).length : Int) from by simp;omega,show ts.length + 1 = (ts ++ [c]).length from by simp]
      have hst := hi.step hne (by omega)
      repeat (first|(first|refine zB ?_|refine zE ?_|refine zG ?_)|(first|((first|refine zA rfl ?_);first|refine zD rfl rfl ?_|refine zC rfl rfl ?_|refine JO_lss rfl rfl rfl ?_)))
      refine J_condP rfl (fun hb => ?_) (fun hb => ?_)
      · repeat (first|(first|refine xA ?_)|(first|((first|refine zA rfl ?_);first|refine zD rfl rfl ?_)))
        exact ⟨⟨(v',ts ++ [c],rs),hst,by simp,hst.done (.inl (by rw [ends_concat];simp;omega))⟩,by (repeat (first|exact zM _|refine zI rfl ?_)),rfl,Ent.sel⟩
      · repeat (first|(first|refine zP ?_)|(first|((first|refine zA rfl ?_);first|refine zD rfl rfl ?_)))
        exact ⟨⟨(v',ts ++ [c],rs),hst,by rw [ends_concat];simp;omega⟩,by simp only [List.length_append,List.length_singleton];omega,by (repeat (first|exact zM _|refine zI rfl ?_)),rfl,Ent.sel⟩
  · rintro ⟨⟨v,ts,rs⟩,hi,hne,hg⟩
    dsimp only at hi hne hg ⊢
    have hlen := hi.hl
    have h10 := hi.h10
    rcases List.eq_nil_or_concat ts with rfl | ⟨us,x,rfl⟩
    · exact absurd rfl hne
    rw [List.concat_eq_append] at *
    have hl1 : (us ++ [x]).length = us.length + 1 := by simp
    have hxn := x.toNat_lt
    have hw : wrongL (us ++ [x]) = (decide (128 ≤ x.toNat) || (decide (us.length + 1 = 10) && decide (1 < x.toNat)) || (decide (1 < us.length + 1) && decide (x.toNat = 0))) := by simp [wrongL,lastN_concat]
    refine J_view fun p cap hv => ?_
    subst hv
    repeat (first|(first|refine zB ?_|refine zG ?_)|(first|((first|refine zA rfl ?_);first|refine JOq (JQ_subF (a := (us ++ [x]).length) (b := 1) rfl rfl (by omega) (vF (by omega))) rfl ?_|refine zD rfl rfl ?_|refine yF rfl rfl ?_)))
    rw [show (us ++ [x]).length - 1 = us.length from by simp]
    refine zA rfl (JO_indexV1 rfl rfl (by rw [hl1];omega) _ (by8_get (get_last (us := us) (x := x))) rfl fun b1 o1 hl => ?_)
    repeat (first|(first|refine zB ?_|refine zE ?_|refine zG ?_)|(first|((first|refine zA rfl ?_);first|refine wU rfl hl rfl ?_|refine zD rfl rfl ?_|refine zC rfl rfl ?_|refine JO_geq rfl rfl rfl ?_)))
    clear hl
    refine JL_cut [(0,ptr d),(3,ptr r0),(4,.int .i64 pl),(5,.slice p (us ++ [x]).length cap),(56,.bool (wrongL (us ++ [x])))] [Vw 1 (.slice p (us ++ [x]).length cap) (us ++ [x]).length (by8 (us ++ [x])),pt r0 (.cells #[.int .i64 0,.int .i64 0] 87 (0,0)),DrB d rs (pl + ((us ++ [x]).length : Int))] ?_ ?_
    · refine JL_guardP rfl rfl rfl (fun h1 => ?_) (fun h1 => ?_)
      · have h1' : 128 ≤ x.toNat := by omega
        repeat (first|(first|refine zE ?_)|(first|((first|refine zA rfl ?_);first|refine zD rfl rfl ?_|refine yA rfl rfl rfl ?_)|refine yU rfl rfl rfl ?_|refine JL_passN rfl rfl rfl ?_))
        exact ⟨by rw [show wrongL (us ++ [x]) = true from by rw [hw];simp [h1']];(repeat (first|exact zM _|refine zI rfl ?_)),rfl,Ent.sel⟩
      · have h1' : ¬ 128 ≤ x.toNat := by omega
        by_cases a : us.length + 1 = 10
        · by_cases b : 1 < x.toNat
          · repeat (first|(first|refine zE ?_)|(first|((first|refine zA rfl ?_|refine zZ rfl rfl ?_);first|refine JOq (JQ_gtrT rfl rfl (by omega)) rfl ?_|refine JOq (yT rfl rfl (by omega)) rfl ?_|refine zD rfl rfl ?_|refine yF rfl rfl ?_|refine yA rfl rfl rfl ?_|refine yJ rfl rfl rfl ?_)|refine yU rfl rfl rfl ?_|refine JL_passN rfl rfl rfl ?_))
            exact ⟨by rw [show wrongL (us ++ [x]) = true from by rw [hw];simp [h1',a,b]];(repeat (first|exact zM _|refine zI rfl ?_)),rfl,Ent.sel⟩
          · by_cases e : x.toNat = 0
            · repeat (first|(first|refine zE ?_)|(first|((first|refine zA rfl ?_|refine zZ rfl rfl ?_);first|refine JOq (JQ_gtrT rfl rfl (by omega)) rfl ?_|refine JOq (JQ_gtrF rfl rfl (by omega)) rfl ?_|refine JOq (yT rfl rfl (by omega)) rfl ?_|refine zD rfl rfl ?_|refine yF rfl rfl ?_|refine yA rfl rfl rfl ?_|refine yJ rfl rfl rfl ?_)))
              exact ⟨by rw [show wrongL (us ++ [x]) = true from by rw [hw];simp [a,e]];(repeat (first|exact zM _|refine zI rfl ?_)),rfl,Ent.sel⟩
            · repeat (first|(first|refine zE ?_)|(first|((first|refine zA rfl ?_|refine zZ rfl rfl ?_);first|refine JOq (JQ_gtrT rfl rfl (by omega)) rfl ?_|refine JOq (JQ_gtrF rfl rfl (by omega)) rfl ?_|refine JOq (yT rfl rfl (by omega)) rfl ?_|refine JOq (yL rfl rfl (by omega)) rfl ?_|refine zD rfl rfl ?_|refine yF rfl rfl ?_|refine yA rfl rfl rfl ?_|refine yJ rfl rfl rfl ?_)))
              exact ⟨by rw [show wrongL (us ++ [x]) = false from by rw [hw];simp [h1',a,b,e]];(repeat (first|exact zM _|refine zI rfl ?_)),rfl,Ent.sel⟩
        · by_cases c : 1 < us.length + 1
          · by_cases e : x.toNat = 0
            · repeat (first|(first|refine zE ?_)|(first|((first|refine zA rfl ?_|refine zZ rfl rfl ?_);first|refine JOq (JQ_gtrT rfl rfl (by omega)) rfl ?_|refine JOq (yT rfl rfl (by omega)) rfl ?_|refine JOq (yL rfl rfl (by omega)) rfl ?_|refine zD rfl rfl ?_|refine yF rfl rfl ?_|refine yA rfl rfl rfl ?_|refine yJ rfl rfl rfl ?_)|refine yU rfl rfl rfl ?_))
              exact ⟨by rw [show wrongL (us ++ [x]) = true from by rw [hw,decide_eq_true c,decide_eq_true e];simp];(repeat (first|exact zM _|refine zI rfl ?_)),rfl,Ent.sel⟩
            · repeat (first|(first|refine zE ?_)|(first|((first|refine zA rfl ?_|refine zZ rfl rfl ?_);first|refine JOq (JQ_gtrT rfl rfl (by omega)) rfl ?_|refine JOq (yL rfl rfl (by omega)) rfl ?_|refine zD rfl rfl ?_|refine yF rfl rfl ?_|refine yA rfl rfl rfl ?_|refine yJ rfl rfl rfl ?_)|refine yU rfl rfl rfl ?_))
              exact ⟨by rw [show wrongL (us ++ [x]) = false from by rw [hw,decide_eq_false e,decide_eq_false a,decide_eq_false h1'];simp];(repeat (first|exact zM _|refine zI rfl ?_)),rfl,Ent.sel⟩
          · repeat (first|(first|refine zE ?_)|(first|((first|refine zA rfl ?_|refine zZ rfl rfl ?_);first|refine JOq (JQ_gtrF rfl rfl (by omega)) rfl ?_|refine JOq (yL rfl rfl (by omega)) rfl ?_|refine zD rfl rfl ?_|refine yF rfl rfl ?_|refine yJ rfl rfl rfl ?_)|refine yU rfl rfl rfl ?_))
            exact ⟨by rw [show wrongL (us ++ [x]) = false from by rw [hw,decide_eq_false c,decide_eq_false a,decide_eq_false h1'];simp];(repeat (first|exact zM _|refine zI rfl ?_)),rfl,Ent.sel⟩
    clear hw
    dsimp only [thn]
    refine J_cond rfl (fun hw => ?_) (fun hw => ?_)
    · have hu : uA bs pl = ⟨0,5,pl,rs,pl + ((us ++ [x]).length : Nat)⟩ := by unfold uA;rw [hg];simp [hw]
      rw [hu]
      repeat (first|(first|refine zB ?_|refine zE ?_|refine zG ?_|refine zV ?_)|(first|((first|refine zA rfl ?_);first|refine yG (cs := [.int .i64 5,.int .i64 pl]) rfl rfl rfl ?_|refine zD rfl rfl ?_|refine zC rfl rfl ?_|refine zO rfl rfl (by rfl) (by rfl) (by first | decide | simp [Value.oneCell']) rfl ?_)))
      exact ⟨rfl,_,res_tcW (n := 2) (cs := [.int .i64 5,.int .i64 pl]) rfl rfl rfl rfl,_,Ent.sel,rfl,rfl⟩
    · have hu : uA bs pl = ⟨valL (us ++ [x]),0,0,rs,pl + ((us ++ [x]).length : Nat)⟩ := by unfold uA;rw [hg];simp [hw]
      have hvf := val_fits h10 hw
      rw [hu]
      generalize us ++ [x] = ts at *
      repeat (first|(first|refine zB ?_|refine zE ?_|refine zG ?_|refine zK ?_|refine zP ?_)|(first|((first|refine zA rfl ?_);first|refine JOq (JQ_subF (a := ts.length) (b := 1) rfl rfl (by omega) (vF (by omega))) rfl ?_|refine zD rfl rfl ?_|refine zC rfl rfl ?_|refine yF rfl rfl ?_)))
      refine xU (β := { k : Nat // k ≤ ts.length }) (fun k => [(3,ptr r0),(5,.slice p ts.length cap),(9,.int .u64 ((valL (ts.drop k.1) : Nat) : Int)),(10,.int .i64 ((k.1 : Int) - 1))]) (fun _ => [])
        (fun _ => [Vw 1 (.slice p ts.length cap) ts.length (by8 ts),pt r0 (.cells #[.int .i64 0,.int .i64 0] 87 (0,0)),DrB d rs (pl + (ts.length : Int))]) (fun k => k.1) ⟨ts.length,Nat.le_refl _⟩ ?_ rfl Ent.sel ?_
      · dsimp only
        rw [List.drop_length,show (ts.length : Int) - 1 = ((ts.length - 1 : Nat) : Int) from by omega]
        (repeat (first|exact zM _|refine zI rfl ?_))
      rintro ⟨k,hk⟩
      dsimp only
      cases k with
      | zero =>
        rw [List.drop_zero]
        repeat (first|(first|refine zB ?_|refine zE ?_|refine zG ?_|refine zJ rfl ?_|refine xA ?_|refine zV ?_)|(first|((first|refine zA rfl ?_);first|refine yG (cs := [.int .i64 0,.int .i64 0]) rfl rfl rfl ?_|refine zD rfl rfl ?_|refine zC rfl rfl ?_|refine JO_geq rfl rfl rfl ?_|refine zO rfl rfl (by rfl) (by rfl) (by first | decide | simp [Value.oneCell']) rfl ?_)))
        exact ⟨rfl,_,res_tcW (n := 2) (cs := [.int .i64 0,.int .i64 0]) rfl rfl rfl rfl,_,Ent.sel,rfl,rfl⟩
      | succ k =>
        obtain ⟨c,hc⟩ : ∃ c,ts[k]? = some c := ⟨_,List.getElem?_eq_getElem (by omega)⟩
        have hcn := c.toNat_lt
        have hvd := val_drop hc
        have hle := val_drop_le ts k
        rw [show ((k + 1 : Nat) : Int) - 1 = (k : Int) from by omega]
        repeat (first|(first|refine zB ?_|refine zE ?_|refine zG ?_|refine zK ?_|refine zP ?_|refine zL rfl ?_)|(first|((first|refine zA rfl ?_);first|refine JOq (JQ_geqT rfl rfl (by omega)) rfl ?_|refine JOq (JQ_mulF (a := valL (ts.drop (k + 1))) (b := 128) rfl rfl (xX (by omega))) rfl ?_|refine zD rfl rfl ?_)))
        refine zA rfl (JO_indexV1 rfl rfl hk _ (by8_get hc) rfl fun b2 o2 hl => ?_)
        repeat (first|(first|refine zB ?_|refine zE ?_)|(first|((first|refine zA rfl ?_);first|refine wU rfl hl rfl ?_|refine JOq (JQ_remF (a := c.toNat) (b := 128) rfl rfl (by decide)) rfl ?_|refine JOq (yX (a := c.toNat % 128) rfl (xX (by omega))) rfl ?_|refine JOq (JQ_addF (a := valL (ts.drop (k + 1)) * 128) (b := c.toNat % 128) rfl rfl (xX (by omega))) rfl ?_|refine zD rfl rfl ?_|refine zC rfl rfl ?_|refine JO_sub rfl rfl (by omega) rfl ?_)))
        refine ⟨⟨k,by omega⟩,by simp only;omega,?_,rfl,Ent.sel⟩
        dsimp only
        rw [hvd]
        (repeat (first|exact zM _|refine zI rfl ?_))
end Go.Proofs.YtickblndgihoeaaGreatDoor

/- Drawn regions where two may come up;bytes of a block made a text. -/
namespace Go.Sp
open Go.RowKit
section
variable {P : Program} {N : Nat} {E : Env} {D : List Deferred} {L L0 : List HP} {Q : uF} {m : Nat}
theorem JM_take0 [hc : CalmQ Q] {ops : Array Oper} {fuel : Nat} {ls : List Bool} (i : Nat) {o : Oper} {v : Value} (ho : ops.toList[i]? = some o) (hg : o.guard = none) (hs : Region.noSelect ops = true) (hf : Region.free .any ops ls.toArray i = true)
    (hr : (Region.ready .any ops ls.toArray).contains i = true) (hmi : Nat.beq m i = false) (hd : dok N o.dst = true) (hq : JQ0 P N o E D v) (h : JM P N ops m fuel (ls.set i true) (put E o.dst v) D L L0 Q) : JM P N ops m (fuel + 1) ls E D L L0 Q := by
  intro F a w hrep hsat hent
  rw [Array.getElem?_toList] at ho
  have hmi' : m ≠ i := fun e => by rw [e] at hmi;simp at hmi
  have hready : i ∈ Region.ready .any ops ls.toArray := by simpa using hr
  refine wpAnyM_first (U := fun _ => True) (v := v) ho (Region.noSelect_spec hs) hmi' ?_ fuel ls.toArray a w (Region.free_spec ho hf) hready (.inl fun _ => trivial) (.inl ⟨by simp [Region.wanted,hg],fun w _ => hq a hrep w⟩) trivial (fun hu => hent (by rw [getD_toArray] at hu;exact hu) F w hsat) ?_
  · rintro c a' w' ⟨E',D',L',q,_⟩
    exact absurd q (hc.h c E' D' L')
  · have := h F (a.put o.dst v) w (hrep.put hd v) hsat (fun hu => hent (by
      have h1 := getD_set_ne (listed := ls.toArray) (i := i) (j := m) true (Ne.symm hmi')
      rw [List.setIfInBounds_toArray,getD_toArray,getD_toArray] at h1
      rw [← h1]
      exact hu))
    rw [List.setIfInBounds_toArray]
    exact this
def Tame2 (P : Program) (o : Oper) : Prop := ∀ (a : Act) (w w' : World) (n : Next),(execOp a.eval o).run P w = .ok n w' → (∃ v,n = .value v) ∨ n = .skip ∨ ∃ f args,n = .enter f args
variable (P N) in
def JM1 (ops : Array Oper) (m : Nat) (fuel : Nat) (ls : List Bool) (i : Nat) (E : Env) (D : List Deferred) (L L0 : List HP) (Q : uF) : Prop :=
  ∀ (F : HP) (a : Act) (w : World),Rep N E D a → Sat w (F :: L) → wpOp P ops (lift N F Q) i (fun a' w' => ((ls.toArray.setIfInBounds i true).getD m true = false → Sat w' (F :: L0)) ∧ wpAnyM P .any ops (lift N F Q) m (fun w => Sat w (F :: L0)) fuel (ls.toArray.setIfInBounds i true) a' w') a w
theorem xT {ops : Array Oper} {fuel : Nat} {ls : List Bool} {i : Nat} {o : Oper} (ho : ops.toList[i]? = some o) (hg : gokL ops E o.guard = true) (ht : Tame2 P o)
    (h : JO P N none o E D L (fun E' D' L' => ((ls.set i true).getD m true = false → Ent L' L0) ∧ JM P N ops m fuel (ls.set i true) E' D' L' L0 Q) Q) : JM1 P N ops m fuel ls i E D L L0 Q := by
  intro F a w hrep hsat
  have hw := want_ok (o := o) hg a hrep
  rw [Array.getElem?_toList] at ho
  simp only [wpOp,ho,hw,if_true]
  refine .inl ?_
  have h1 := (h F a w hrep hsat (fun a' w' => ((ls.toArray.setIfInBounds i true).getD m true = false → Sat w' (F :: L0)) ∧ wpAnyM P .any ops (lift N F Q) m (fun w => Sat w (F :: L0)) fuel (ls.toArray.setIfInBounds i true) a' w') (fun E' D' L' a' w' hn hr' hs' => by
    rw [List.setIfInBounds_toArray]
    exact ⟨fun hf => hn.1 (by rw [getD_toArray] at hf;exact hf) F w' hs',hn.2 F a' w' hr' hs' hn.1⟩)).2
  rw [show (FW none).round = none from rfl,Oper.semAt_none] at h1
  unfold Oper.wp
  cases hres : (execOp a.eval o).run P w with
  | ok n w' =>
    have ht1 := ht a w w' n hres
    rw [hres] at h1
    rcases ht1 with ⟨v,rfl⟩ | rfl | ⟨f,args,rfl⟩
    · exact h1
    · exact h1
    · rw [Oper.uponIn_enter] at h1
      rw [Oper.upon_enter]
      exact callsIn_wide.1 h1.2
  | halt z w' =>
    rw [hres] at h1
    cases z <;> first|exact h1|exact h1.elim
theorem wW {ops : Array Oper} {fuel : Nat} {ls : List Bool} {i : Nat} (hr : onlyR ops ls (idxs ops.toList 0) = some i) (h : JM1 P N ops m fuel ls i E D L L0 Q) : JM P N ops m (fuel + 1) ls E D L L0 Q := by
  intro F a w hrep hsat _
  have hr := onlyR_ready hr
  refine ⟨fun h0 => (by rw [hr] at h0;cases h0),fun k hk => ?_⟩
  rw [hr] at hk
  simp only [List.mem_singleton] at hk
  subst hk
  exact h F a w hrep hsat
def twoR (ops : Array Oper) (ls : List Bool) : List Nat → Option (Nat × Nat)
  | [] => none
  | i :: r => match rdy ops ls i with
    | true => (onlyR ops ls r).map fun j => (i,j)
    | false => twoR ops ls r
theorem twoR_filter {ops : Array Oper} {ls : List Bool} {i j : Nat} : ∀ {l : List Nat},twoR ops ls l = some (i,j) → l.filter (rdy ops ls) = [i,j] := by
  intro l
  induction l with
  | nil => intro h;cases h
  | cons k r ih =>
    intro h
    simp only [twoR] at h
    split at h
    · rename_i hk
      simp only [Option.map_eq_some_iff,Prod.mk.injEq] at h
      obtain ⟨j',h1,rfl,rfl⟩ := h
      rw [List.filter_cons,hk]
      simp only [if_true]
      rw [onlyR_filter h1]
    · rename_i hk
      rw [List.filter_cons,hk]
      exact ih h
theorem JM_two {ops : Array Oper} {fuel : Nat} {ls : List Bool} {i j : Nat} (hr : twoR ops ls (idxs ops.toList 0) = some (i,j)) (h1 : JM1 P N ops m fuel ls i E D L L0 Q) (h2 : JM1 P N ops m fuel ls j E D L L0 Q) : JM P N ops m (fuel + 1) ls E D L L0 Q := by
  intro F a w hrep hsat _
  have hr : Region.ready .any ops ls.toArray = [i,j] := by rw [rdy_eq,idxs_range];exact twoR_filter hr
  refine ⟨fun h0 => (by rw [hr] at h0;cases h0),fun k hk => ?_⟩
  rw [hr] at hk
  simp only [List.mem_cons,List.not_mem_nil,or_false] at hk
  rcases hk with rfl | rfl
  · exact h1 F a w hrep hsat
  · exact h2 F a w hrep hsat
theorem zX {o : Oper} (hp : Plain P o) : Tame2 P o := fun a w w' n h => (hp a.eval w w' n h).elim (fun h => .inr (.inl h)) .inl
section
variable {d : Option Nat} {ty : TypeId} {pos : String} {after : Array Edge} {g : Option (Nat × Bool)}
theorem xN {f : FuncId} [hf : CF P f] {args : Array Operand} {ts : Array TypeId} : Tame2 P ⟨d,.call ⟨.value (.func f),args,ts⟩,ty,pos,after,g⟩ := fun a w w' n h => by
  have e : (execOp a.eval ⟨d,.call ⟨.value (.func f),args,ts⟩,ty,pos,after,g⟩).run P w = .ok (.enter f (args.map a.eval)) w := by simp [execOp,resolve,Act.eval,Deferred.ofValue,invoke,hf.h]
  rw [e] at h
  cases h
  exact .inr (.inr ⟨_,_,rfl⟩)
theorem plain_convert {s t : TypeId} {x : Operand} : Plain P ⟨d,.convert s t x,ty,pos,after,g⟩ := fun _ _ _ _ h => .inr (yD _ _ _ _ h)
theorem plain_bin {op : BinOp} {t u : TypeId} {x y : Operand} : Plain P ⟨d,.binOp op t x y u,ty,pos,after,g⟩ := fun _ _ _ _ h => .inr (yD _ _ _ _ h)
theorem uV {x : Operand} : Plain P ⟨d,.assign x,ty,pos,after,g⟩ := fun _ _ _ _ h => by
  simp [execOp] at h
  exact .inr ⟨_,h.1.symm⟩
theorem JQ_strB {src dst e : TypeId} [TU P src (.slice e)] [TU P e (.int .u8)] [TU P dst .string] {x : Operand} {bs : List UInt8} {b n cap : Nat} {bt : TypeId} {fz : Nat × Nat} {cs : List Value} (hx : ev E x = some (.slice (some ⟨b,0,none⟩) n cap)) [hb : HB L b (.cells cs.toArray bt fz)] (hn : n = bs.length) (hc : cs = by8 bs) :
    JQ P N ⟨d,.convert src dst x,ty,pos,after,g⟩ E D L (str bs) := fun F a hr w hs => by
  subst hn;subst hc
  have hrun : (convert src dst (.slice (some ⟨b,0,none⟩) bs.length cap)).run P w = .ok (.string ⟨bs.toArray⟩) w := by
    refine run_convert_bytes_back w src dst e ⟨b,0,none⟩ cap bs TU.h TU.h TU.h fun j hj => ?_
    rw [addr_add,Nat.zero_add]
    exact cell_of (hb.h F w hs) (by8_get (List.getElem?_eq_getElem hj))
  simp [execOp,hr.eval hx,hrun]
theorem JQ0_remF {x y : Operand} {t u : TypeId} {k : IntKind} {a b : Nat} (hx : ev E x = some (.int k (a : Int))) (hy : ev E y = some (.int k (b : Int))) (hb : 0 < b) : JQ0 P N ⟨d,.binOp .rem t x y u,ty,pos,after,g⟩ E D (.int k ((a % b : Nat) : Int)) := fun ac hr w => by
  have h1 : ¬ b = 0 := by omega
  have h2 : ((a : Int).tmod (b : Int)) = ((a % b : Nat) : Int) := by rw [Int.ofNat_tmod]
  simp [execOp,hr.eval hx,hr.eval hy,eqGuard,binOp,Op.intDiv,h1,h2]
theorem JQ0_quoF {x y : Operand} {t u : TypeId} {k : IntKind} {a b : Nat} (hx : ev E x = some (.int k (a : Int))) (hy : ev E y = some (.int k (b : Int))) (hb : 0 < b) (h : Fit k (a / b)) : JQ0 P N ⟨d,.binOp .quo t x y u,ty,pos,after,g⟩ E D (.int k ((a / b : Nat) : Int)) := fun ac hr w => by
  have h1 : ¬ b = 0 := by omega
  have h2 : ((a : Int).tdiv (b : Int)) = ((a / b : Nat) : Int) := by rw [Int.ofNat_tdiv]
  unfold Fit at h
  simp [execOp,hr.eval hx,hr.eval hy,eqGuard,binOp,Op.intDiv,h1,h2]
  simpa using h
theorem JQ0_addF {x y : Operand} {t u : TypeId} {k : IntKind} {a b : Nat} (hx : ev E x = some (.int k (a : Int))) (hy : ev E y = some (.int k (b : Int))) (h : Fit k (a + b)) : JQ0 P N ⟨d,.binOp .add t x y u,ty,pos,after,g⟩ E D (.int k ((a + b : Nat) : Int)) := fun ac hr w => by
  have h' : k.wrap ((a : Int) + (b : Int)) = ((a + b : Nat) : Int) := by rw [← Int.natCast_add];exact h
  simp [execOp,hr.eval hx,hr.eval hy,eqGuard,binOp,Op.intArith,h']
theorem JQ0_convF {src dst : TypeId} {k k' : IntKind} {sd : TypeDesc} [TU P src sd] [TU P dst (.int k')] {x : Operand} {a : Nat} (hx : ev E x = some (.int k (a : Int))) (h : Fit k' a) : JQ0 P N ⟨d,.convert src dst x,ty,pos,after,g⟩ E D (.int k' (a : Int)) := fun ac hr w => by
  unfold Fit at h
  simp [execOp,hr.eval hx,convert,yM (TU.h (P := P) (t := src)),yM (TU.h (P := P) (t := dst)),Conv.intToInt,h]
end
end
end Go.Sp

/- Layer 2: the document's whole numbers,small ones,bytes and folds. -/
namespace Go.Proofs.YtickblndgihoeaaGreatDoor
open Go Go.Sp
attribute [local irreducible] callFunc Go.method J JL JO Ct JG JM JM1 JQ JQ0 JS CtD xB DrB by8 ibits uA
theorem unfold_c (n : Nat) (hn : n < 18446744073709551616) : Ct Tryz.prog 178 #[.int .u64 (n : Int)] [] (wF (.int .i64 (uB n)) []) := by
  refine yE (vs := [_]) Tryz.func178 rfl Tryz.ntmps178 (by simp) ?_
  by_cases h2 : n % 2 = 0
  · have hz : uB n = ((n / 2 : Nat) : Int) := by simp [uB,h2]
    rw [hz]
    repeat (first|(first|refine zB ?_|refine zE ?_|refine zG ?_|refine zL rfl ?_|refine zV ?_)|(first|((first|refine zA rfl ?_);first|refine JOq (JQ_remF (a := n) (b := 2) rfl rfl (by decide)) rfl ?_|refine JOq (yT rfl rfl (by omega)) rfl ?_|refine JOq (JQ_quoF (a := n) (b := 2) rfl rfl (by decide) (xX (by omega))) rfl ?_|refine JOq (yX (a := n / 2) rfl (vF (by omega))) rfl ?_|refine zD rfl rfl ?_|refine zC rfl rfl ?_)))
    exact zY rfl rfl .nil
  · have hz : uB n = -((n / 2 : Nat) : Int) - 1 := by simp [uB,h2]
    rw [hz]
    repeat (first|(first|refine zB ?_|refine zE ?_|refine zG ?_|refine zP ?_|refine zJ rfl ?_|refine zV ?_)|(first|((first|refine zA rfl ?_);first|refine JOq (JQ_remF (a := n) (b := 2) rfl rfl (by decide)) rfl ?_|refine JOq (yL rfl rfl (by omega)) rfl ?_|refine JOq (JQ_quoF (a := n) (b := 2) rfl rfl (by decide) (xX (by omega))) rfl ?_|refine JOq (yX (a := n / 2) rfl (vF (by omega))) rfl ?_|refine JOq (JQ_neg (-((n / 2 : Nat) : Int)) rfl (by rw [IntKind.wrap_i64];omega)) rfl ?_|refine zD rfl rfl ?_|refine zC rfl rfl ?_|refine JO_sub rfl rfl (by omega) rfl ?_)))
    exact zY rfl rfl .nil
theorem fold_c (z : Int) (hz : -9223372036854775808 ≤ z ∧ z ≤ 9223372036854775807) : Ct Tryz.prog 71 #[.int .i64 z] [] (wF (.int .u64 ((foldZ z : Nat) : Int)) []) := by
  refine yE (vs := [_]) Tryz.func71 rfl Tryz.ntmps71 (by simp) ?_
  by_cases h0 : 0 ≤ z
  · obtain ⟨m,rfl⟩ : ∃ m : Nat,z = (m : Int) := ⟨z.toNat,by omega⟩
    have hf : foldZ (m : Int) = 2 * m := by unfold foldZ;rw [if_pos h0];omega
    rw [hf]
    repeat (first|(first|refine zB ?_|refine zE ?_|refine zG ?_|refine zL rfl ?_|refine zV ?_)|(first|((first|refine zA rfl ?_);first|refine JOq (JQ_geqT rfl rfl (by omega)) rfl ?_|refine JOq (yX (a := m) rfl (xX (by omega))) rfl ?_|refine JOq (JQ_mulF (a := 2) (b := m) rfl rfl (xX (by omega))) rfl ?_|refine zD rfl rfl ?_|refine zC rfl rfl ?_)))
    exact zY rfl rfl .nil
  · obtain ⟨m,hm⟩ : ∃ m : Nat,-(z + 1) = (m : Int) := ⟨(-(z + 1)).toNat,by omega⟩
    have hf : foldZ z = 2 * (m + 1 - 1) + 1 := by unfold foldZ;rw [if_neg h0];omega
    rw [hf]
    repeat (first|(first|refine zB ?_|refine zE ?_|refine zG ?_|refine zP ?_|refine zJ rfl ?_|refine zV ?_)|(first|((first|refine zA rfl ?_);first|refine JOq (JQ_geqF rfl rfl (by omega)) rfl ?_|refine JOq (JQ_neg (m : Int) rfl (by rw [IntKind.wrap_i64];omega)) rfl ?_|refine JOq (yX (a := m) rfl (xX (by omega))) rfl ?_|refine JOq (JQ_addF (a := m) (b := 1) rfl rfl (xX (by omega))) rfl ?_|refine JOq (JQ_subF (a := m + 1) (b := 1) rfl rfl (by omega) (xX (by omega))) rfl ?_|refine JOq (JQ_mulF (a := 2) (b := m + 1 - 1) rfl rfl (xX (by omega))) rfl ?_|refine JOq (JQ_addF (a := 2 * (m + 1 - 1)) (b := 1) rfl rfl (xX (by omega))) rfl ?_|refine zD rfl rfl ?_|refine zC rfl rfl ?_|refine JO_add rfl rfl (by omega) rfl ?_)))
    exact zY rfl rfl .nil
theorem ds_B (d : Nat) (bs : List UInt8) (pl : Int) (hpl : 0 ≤ pl ∧ pl + bs.length ≤ 1000000) :
    Ct Tryz.prog 165 #[ptr d] [DrB d bs pl] (wF (.tuple #[.int .i64 (uB (uA bs pl).n),uC (uA bs pl).c (uA bs pl).a]) [DrB d (uA bs pl).rest (uA bs pl).pl]) := by
  have hu := du_B d bs pl hpl
  obtain ⟨hn,_,_,h0⟩ := uA_ok bs pl
  have ha := uA_a bs pl
  generalize uA bs pl = A at *
  refine yE (vs := [_]) Tryz.func165 rfl Tryz.ntmps165 (by simp) ?_
  obtain ⟨An,Ac,Aa,Ar,Ap⟩ := A
  dsimp only at *
  by_cases hc : Ac = 0
  · subst hc
    obtain rfl := ha rfl
    repeat (first|(first|refine zB ?_|refine zE ?_|refine zG ?_|refine zP ?_|refine zJ rfl ?_)|(first|((first|refine zA rfl ?_);first|refine JOq (vW rfl rfl (by omega)) rfl ?_|refine zD rfl rfl ?_|refine zC rfl rfl ?_|refine zF rfl rfl ?_|refine zH rfl rfl ?_|refine zT rfl rfl rfl ?_|refine zS rfl (fun r => ?_)|refine zO rfl rfl (by rfl) (by rfl) (by first | decide | simp [Value.oneCell']) rfl ?_|refine zN rfl (hu) rfl ?_)))
    refine J_calm ?_
    refine J_regionGS [pt r (.cells #[.int .i64 0,.int .i64 0] 87 (0,0))] ?_
    repeat (first|refine JG_n rfl rfl rfl (by kernel_rfl) (by kernel_rfl) rfl Ent.sel (by first|exact xF [.int .i64 0,.int .i64 0] rfl (fun i u hu => wB (by rw [Nat.zero_add];exact hu)) rfl|exact xE rfl|exact vT rfl) ?_|refine JG_jo rfl rfl rfl uX (zR rfl (unfold_c An hn) rfl ⟨Ent.sel,?_⟩))
    refine JG_one 4 rfl rfl (by kernel_rfl) xC (zO rfl rfl (by rfl) (by rfl) (by simp [Value.oneCell']) rfl ⟨Ent.sel,?_⟩)
    repeat (first|refine tA rfl ?_)
    repeat (first|(first|refine zV ?_)|(first|((first|refine zA rfl ?_);first|refine zD rfl rfl ?_)))
    exact ⟨rfl,_,res_tcW (n := 2) (cs := [.int .i64 0,.int .i64 0]) rfl rfl rfl rfl,_,Ent.sel,rfl,rfl⟩
  · have hz : uB An = 0 := by rw [h0 hc];rfl
    rw [hz]
    repeat (first|(first|refine zB ?_|refine zE ?_|refine zG ?_|refine zL rfl ?_)|(first|((first|refine zA rfl ?_);first|refine JOq (vS rfl rfl (by omega)) rfl ?_|refine zD rfl rfl ?_|refine zC rfl rfl ?_|refine zF rfl rfl ?_|refine zH rfl rfl ?_|refine zT rfl rfl rfl ?_|refine zS rfl (fun r => ?_)|refine zO rfl rfl (by rfl) (by rfl) (by first | decide | simp [Value.oneCell']) rfl ?_|refine zN rfl (hu) rfl ?_)))
    refine J_calm ?_
    refine J_regionGS [pt r (.cells #[.int .i64 Ac,.int .i64 Aa] 87 (0,0))] ?_
    repeat (first|refine JG_n rfl rfl rfl (by kernel_rfl) (by kernel_rfl) rfl Ent.sel (by first|exact xF [.int .i64 Ac,.int .i64 Aa] rfl (fun i u hu => wB (by rw [Nat.zero_add];exact hu)) rfl|exact vT rfl) ?_)
    refine JG_one 2 rfl rfl (by kernel_rfl) xC (zO rfl rfl (by rfl) (by rfl) (by simp [Value.oneCell']) rfl ⟨Ent.sel,?_⟩)
    repeat (first|refine tA rfl ?_)
    repeat (first|(first|refine zV ?_)|(first|((first|refine zA rfl ?_);first|refine zD rfl rfl ?_)))
    exact ⟨rfl,_,res_tcW (n := 2) (cs := [.int .i64 Ac,.int .i64 Aa]) rfl rfl rfl rfl,_,Ent.sel,rfl,rfl⟩
set_option maxHeartbeats 2000000 in
theorem dsm_B (d : Nat) (bs : List UInt8) (pl most : Int) (hpl : 0 ≤ pl ∧ pl + bs.length ≤ 1000000) (hm : most ≤ 9223372036854775807) :
    Ct Tryz.prog 124 #[ptr d,.int .i64 most] [DrB d bs pl] (wF (.tuple #[.int .i64 (((smA bs pl most).1 : Nat) : Int),uC (smA bs pl most).2.1 (smA bs pl most).2.2]) [DrB d (uA bs pl).rest (uA bs pl).pl]) := by
  have hp := dplace_B d bs pl
  have hu := du_B d bs pl hpl
  have ha := uA_a bs pl
  unfold smA
  generalize uA bs pl = A at *
  refine yE (vs := [_,_]) Tryz.func124 rfl Tryz.ntmps124 (by simp) ?_
  obtain ⟨An,Ac,Aa,Ar,Ap⟩ := A
  dsimp only at *
  by_cases hc : Ac = 0
  · subst hc
    obtain rfl := ha rfl
    by_cases h1 : most < 0
    · simp only [h1,true_or,if_true,ne_eq,not_true_eq_false,if_false]
      repeat (first|(first|refine zB ?_|refine zE ?_|refine zG ?_|refine zP ?_|refine zL rfl ?_|refine zJ rfl ?_|refine zV ?_)|(first|((first|refine zA rfl ?_);first|refine JOq (yH rfl rfl (by omega)) rfl ?_|refine JOq (vW rfl rfl (by omega)) rfl ?_|refine yG (cs := [.int .i64 4,.int .i64 pl]) rfl rfl rfl ?_|refine zD rfl rfl ?_|refine zC rfl rfl ?_|refine zF rfl rfl ?_|refine zH rfl rfl ?_|refine yA rfl rfl rfl ?_|refine zT rfl rfl rfl ?_|refine zS rfl (fun r => ?_)|refine zO rfl rfl (by rfl) (by rfl) (by first | decide | simp [Value.oneCell']) rfl ?_|refine zN rfl (hp) rfl ?_|refine zN rfl (hu) rfl ?_)|refine yU rfl rfl rfl ?_))
      exact ⟨rfl,_,res_tcW (n := 2) (cs := [.int .i64 4,.int .i64 pl]) rfl rfl rfl rfl,_,Ent.sel,rfl,rfl⟩
    · obtain ⟨m,rfl⟩ : ∃ m : Nat,most = (m : Int) := ⟨most.toNat,by omega⟩
      by_cases h2 : ((m : Nat) : Int) < (An : Int)
      · simp only [h1,h2,false_or,if_true,ne_eq,not_true_eq_false,if_false]
        repeat (first|(first|refine zB ?_|refine zE ?_|refine zG ?_|refine zP ?_|refine zL rfl ?_|refine zJ rfl ?_|refine zV ?_)|(first|((first|refine zA rfl ?_|refine zZ rfl rfl ?_);first|refine JOq (yX (a := m) rfl (xX (by omega))) rfl ?_|refine JOq (yS rfl rfl (by omega)) rfl ?_|refine JOq (JQ_gtrT rfl rfl (by omega)) rfl ?_|refine JOq (vW rfl rfl (by omega)) rfl ?_|refine yG (cs := [.int .i64 4,.int .i64 pl]) rfl rfl rfl ?_|refine zD rfl rfl ?_|refine zC rfl rfl ?_|refine zF rfl rfl ?_|refine zH rfl rfl ?_|refine yJ rfl rfl rfl ?_|refine zT rfl rfl rfl ?_|refine zS rfl (fun r => ?_)|refine zO rfl rfl (by rfl) (by rfl) (by first | decide | simp [Value.oneCell']) rfl ?_|refine zN rfl (hp) rfl ?_|refine zN rfl (hu) rfl ?_)))
        exact ⟨rfl,_,res_tcW (n := 2) (cs := [.int .i64 4,.int .i64 pl]) rfl rfl rfl rfl,_,Ent.sel,rfl,rfl⟩
      · simp only [h1,h2,or_self,ne_eq,not_true_eq_false,if_false]
        repeat (first|(first|refine zB ?_|refine zE ?_|refine zG ?_|refine zP ?_|refine zJ rfl ?_)|(first|((first|refine zA rfl ?_|refine zZ rfl rfl ?_);first|refine JOq (yX (a := m) rfl (xX (by omega))) rfl ?_|refine JOq (yS rfl rfl (by omega)) rfl ?_|refine JOq (JQ_gtrF rfl rfl (by omega)) rfl ?_|refine JOq (vW rfl rfl (by omega)) rfl ?_|refine zD rfl rfl ?_|refine zC rfl rfl ?_|refine zF rfl rfl ?_|refine zH rfl rfl ?_|refine yJ rfl rfl rfl ?_|refine zT rfl rfl rfl ?_|refine zS rfl (fun r => ?_)|refine zO rfl rfl (by rfl) (by rfl) (by first | decide | simp [Value.oneCell']) rfl ?_|refine zN rfl (hp) rfl ?_|refine zN rfl (hu) rfl ?_)))
        refine J_calm ?_
        refine J_regionGS [pt r (.cells #[.int .i64 0,.int .i64 0] 87 (0,0))] ?_
        repeat (first|refine JG_n rfl rfl rfl (by kernel_rfl) (by kernel_rfl) rfl Ent.sel (by first|exact yX (a := An) rfl (vF (by omega))|exact xF [.int .i64 0,.int .i64 0] rfl (fun i u hu => wB (by rw [Nat.zero_add];exact hu)) rfl|exact xE rfl|exact vT rfl) ?_)
        refine JG_one 4 rfl rfl (by kernel_rfl) xC (zO rfl rfl (by rfl) (by rfl) (by simp [Value.oneCell']) rfl ⟨Ent.sel,?_⟩)
        repeat (first|refine tA rfl ?_)
        repeat (first|(first|refine zV ?_)|(first|((first|refine zA rfl ?_);first|refine zD rfl rfl ?_)))
        exact ⟨rfl,_,res_tcW (n := 2) (cs := [.int .i64 0,.int .i64 0]) rfl rfl rfl rfl,_,Ent.sel,rfl,rfl⟩
  · simp only [hc,ne_eq,not_false_eq_true,if_true]
    repeat (first|(first|refine zB ?_|refine zE ?_|refine zG ?_|refine zL rfl ?_)|(first|((first|refine zA rfl ?_);first|refine JOq (vS rfl rfl (by omega)) rfl ?_|refine zD rfl rfl ?_|refine zC rfl rfl ?_|refine zF rfl rfl ?_|refine zH rfl rfl ?_|refine zT rfl rfl rfl ?_|refine zS rfl (fun r => ?_)|refine zO rfl rfl (by rfl) (by rfl) (by first | decide | simp [Value.oneCell']) rfl ?_|refine zN rfl (hp) rfl ?_|refine zN rfl (hu) rfl ?_)))
    refine J_calm ?_
    refine J_regionGS [pt r (.cells #[.int .i64 Ac,.int .i64 Aa] 87 (0,0))] ?_
    repeat (first|refine JG_n rfl rfl rfl (by kernel_rfl) (by kernel_rfl) rfl Ent.sel (by first|exact xF [.int .i64 Ac,.int .i64 Aa] rfl (fun i u hu => wB (by rw [Nat.zero_add];exact hu)) rfl|exact vT rfl) ?_)
    refine JG_one 2 rfl rfl (by kernel_rfl) xC (zO rfl rfl (by rfl) (by rfl) (by simp [Value.oneCell']) rfl ⟨Ent.sel,?_⟩)
    repeat (first|refine tA rfl ?_)
    repeat (first|(first|refine zV ?_)|(first|((first|refine zA rfl ?_);first|refine zD rfl rfl ?_)))
    exact ⟨rfl,_,res_tcW (n := 2) (cs := [.int .i64 Ac,.int .i64 Aa]) rfl rfl rfl rfl,_,Ent.sel,rfl,rfl⟩
end Go.Proofs.YtickblndgihoeaaGreatDoor

/- Layer 2: the document's bytes of a number. -/
namespace Go.Proofs.YtickblndgihoeaaGreatDoor
open Go Go.Sp
theorem by8_one {n : Nat} (h : n < 256) : by8 [UInt8.ofNat n] = [.int .u8 (n : Int)] := by
  simp only [by8,List.map_cons,List.map_nil,toNat_of h]
attribute [local irreducible] callFunc Go.method J JL JO Ct JG JM JM1 JQ JQ0 JS CtD xB by8 ibits
set_option maxRecDepth 8000 in
set_option maxHeartbeats 4000000 in
theorem bytes_c : ∀ n : Nat,n < 18446744073709551616 → Ct Tryz.prog 68 #[.int .u64 (n : Int)] [] (wF (str (wY n)) []) := by
  intro n
  induction n using Nat.strongRecOn with
  | _ n ih =>
    intro hn
    refine yE (vs := [_]) Tryz.func68 rfl Tryz.ntmps68 (by simp) ?_
    by_cases h : n < 128
    · rw [encU_lt h]
      repeat (first|(first|refine zB ?_|refine zE ?_|refine zG ?_|refine zL rfl ?_|refine zV ?_)|(first|((first|refine zA rfl ?_);first|refine JOq (yH rfl rfl (by omega)) rfl ?_|refine JOq (yX (a := n) rfl (wrap_u8 (by omega))) rfl ?_|refine JOq (JQ_strB (bs := [UInt8.ofNat n]) rfl rfl (by8_one (by omega)).symm) rfl ?_|refine zD rfl rfl ?_|refine zC rfl rfl ?_|refine yP rfl rfl rfl (by decide) rfl (fun r => ?_))))
      exact zY rfl rfl .nil
    · rw [encU_ge h]
      have h1 := ih (n / 128) (by omega) (by omega)
      have hl := vM (n := n / 128) (by omega)
      repeat (first|(first|refine zB ?_|refine zE ?_|refine zG ?_|refine zP ?_|refine zJ rfl ?_)|(first|((first|refine zA rfl ?_);first|refine JOq (yS rfl rfl (by omega)) rfl ?_|refine zD rfl rfl ?_|refine zC rfl rfl ?_)))
      refine J_calm ?_
      refine tM 10 [] Ent.nil ?_
      refine JM_take0 0 rfl rfl (by kernel_rfl) (by kernel_rfl) (by kernel_rfl) rfl rfl (JQ0_move rfl) ?_
      refine JM_take0 1 rfl rfl (by kernel_rfl) (by kernel_rfl) (by kernel_rfl) rfl rfl (JQ0_remF (a := n) (b := 128) rfl rfl (by decide)) ?_
      refine JM_take0 2 rfl rfl (by kernel_rfl) (by kernel_rfl) (by kernel_rfl) rfl rfl (JQ0_convF (a := n % 128) rfl (wrap_u8 (by omega))) ?_
      refine JM_take0 3 rfl rfl (by kernel_rfl) (by kernel_rfl) (by kernel_rfl) rfl rfl (JQ0_addF (a := n % 128) (b := 128) rfl rfl (wrap_u8 (by omega))) ?_
      refine JM_take0 6 rfl rfl (by kernel_rfl) (by kernel_rfl) (by kernel_rfl) rfl rfl (JQ0_move rfl) ?_
      refine JM_take0 7 rfl rfl (by kernel_rfl) (by kernel_rfl) (by kernel_rfl) rfl rfl (JQ0_quoF (a := n) (b := 128) rfl rfl (by decide) (xX (by omega))) ?_
      repeat' (first|refine JM_fin rfl ?_|refine JM_two rfl ?_ ?_|refine wW rfl ?_|refine xT rfl rfl (zX plain_row) (yP rfl rfl rfl (by decide) rfl (fun r => ⟨fun _ => Ent.nil,?_⟩))|refine xT rfl rfl xN (zN rfl h1 rfl ⟨fun _ => Ent.nil,?_⟩)|refine xT rfl rfl (zX plain_convert) (JOq (JQ_strB (bs := [UInt8.ofNat (n % 128 + 128)]) rfl rfl (by8_one (by omega)).symm) rfl ⟨fun _ => Ent.nil,?_⟩)|refine xT rfl rfl (zX plain_bin) (JOq (uQ rfl rfl (by simp only [List.length_singleton];omega)) rfl ⟨fun _ => Ent.nil,?_⟩)|refine xT rfl rfl (zX uV) (zC rfl rfl ⟨fun _ => Ent.nil,?_⟩))
      all_goals (refine zV ?_;exact zY rfl rfl .nil)
end Go.Proofs.YtickblndgihoeaaGreatDoor

/- Shifts and conversions by their values. -/
namespace Go.Sp
open Go.RowKit
section
variable {P : Program} {N : Nat} {E : Env} {D : List Deferred} {L : List HP}
variable {d : Option Nat} {ty : TypeId} {pos : String} {after : Array Edge} {g : Option (Nat × Bool)}
variable {x y : Operand} {t u : TypeId} {k : IntKind}
theorem JQ_shlV {yk : IntKind} {z : Int} {s : Nat} (v : Int) (hx : ev E x = some (.int k z)) (hy : ev E y = some (.int yk (s : Int))) (hs' : s ≤ k.bits) (hv : k.wrap (z * 2 ^ s) = v) : JQ P N ⟨d,.binOp .shl t x y u,ty,pos,after,g⟩ E D L (.int k v) := fun F ac hr w hs => by
  have h0 : ¬ ((s : Int) < 0) := by omega
  simp [execOp,hr.eval hx,hr.eval hy,eqGuard,binOp,Op.shift,h0]
  rw [show min s k.bits = s from by omega,hv]
theorem JQ_shrV {yk : IntKind} {z : Int} {s : Nat} (v : Int) (hx : ev E x = some (.int k z)) (hy : ev E y = some (.int yk (s : Int))) (hs' : s ≤ k.bits) (hv : z / 2 ^ s = v) : JQ P N ⟨d,.binOp .shr t x y u,ty,pos,after,g⟩ E D L (.int k v) := fun F ac hr w hs => by
  have h1 := shift_shr k yk z (s : Int) (by omega) (by omega)
  rw [Int.toNat_natCast,hv] at h1
  simp only [execOp,hr.eval hx,hr.eval hy,eqGuard,binOp,h1]
  simp
theorem JQ_convV {src dst : TypeId} {k' : IntKind} {sd : TypeDesc} [TU P src sd] [TU P dst (.int k')] {z : Int} (v : Int) (hx : ev E x = some (.int k z)) (hv : k'.wrap z = v) : JQ P N ⟨d,.convert src dst x,ty,pos,after,g⟩ E D L (.int k' v) := hv ▸ JQ_convW hx
end
end Go.Sp

/- Layer 2: the program lays numbers. -/
namespace Go.Proofs.YtickblndgihoeaaGreatDoor
open Go Go.Sp
def dig (n : Nat) : List (List Value) := if n < 128 then [[.int .u8 (n : Int),.bool true]] else [.int .u8 ((n % 128 : Nat) : Int),.bool false] :: dig (n / 128)
termination_by n
decreasing_by omega
theorem dig_lt {n : Nat} (h : n < 128) : dig n = [[.int .u8 (n : Int),.bool true]] := by rw [dig];simp [h]
theorem dig_ge {n : Nat} (h : ¬ n < 128) : dig n = [.int .u8 ((n % 128 : Nat) : Int),.bool false] :: dig (n / 128) := by rw [dig];simp [h]
theorem dig_len : ∀ n : Nat,(dig n).length = (wY n).length := by
  intro n
  induction n using Nat.strongRecOn with
  | _ n ih =>
    by_cases h : n < 128
    · rw [dig_lt h,encU_lt h];rfl
    · rw [dig_ge h,encU_ge h,List.length_cons,List.length_cons,ih (n / 128) (by omega)]
theorem dig_get : ∀ (n i : Nat) (x : List Value),(dig n)[i]? = some x → ∃ b,(wY n)[i]? = some b ∧ (x = [.int .u8 ((b.toNat : Nat) : Int),.bool true] ∨ (x = [.int .u8 ((b.toNat % 128 : Nat) : Int),.bool false] ∧ 128 ≤ b.toNat)) := by
  intro n
  induction n using Nat.strongRecOn with
  | _ n ih =>
    intro i x hx
    by_cases h : n < 128
    · rw [dig_lt h] at hx
      rw [encU_lt h]
      cases i with
      | zero =>
        simp only [List.getElem?_cons_zero,Option.some.injEq] at hx
        exact ⟨_,rfl,.inl (by rw [toNat_of (by omega),hx])⟩
      | succ i => simp at hx
    · rw [dig_ge h] at hx
      rw [encU_ge h]
      cases i with
      | zero =>
        simp only [List.getElem?_cons_zero,Option.some.injEq] at hx
        refine ⟨_,rfl,.inr ⟨?_,by rw [toNat_of (by omega)];omega⟩⟩
        rw [toNat_of (by omega),← hx,show (n % 128 + 128) % 128 = n % 128 from by omega]
      | succ i => exact ih (n / 128) (by omega) i x (by simpa using hx)
attribute [local irreducible] callFunc Go.method J JL JO Ct JG JM JM1 JQ JQ0 JS CtD xB WrB by8 ibits
theorem sevens_c (n : Nat) : Ct Tryz.prog 97 #[.int .u64 (n : Int)] [] (RetE (fun _ : Nat => True) (fun r => .func (.func 149) #[] #[ptr r]) (fun r => [pt r (.cells #[.int .u64 (n : Int)] 101 (0,0))])) := by
  refine yE (vs := [_]) Tryz.func97 rfl Tryz.ntmps97 (by simp) ?_
  repeat (first|(first|refine zB ?_|refine zE ?_|refine zG ?_|refine zV ?_)|(first|((first|refine zA rfl ?_);first|refine zC rfl rfl ?_|refine JO_box1 rfl rfl rfl (fun r => ?_)|refine wP rfl rfl rfl ?_)))
  exact ret_one rfl rfl r trivial rfl Ent.sel
set_option maxHeartbeats 1000000 in
theorem sevens1_c (r n : Nat) (hn : n < 18446744073709551616) : SeqC Tryz.prog 149 [] [ptr r] [pt r (.cells #[.int .u64 (n : Int)] 101 (0,0))] (dig n) := by
  intro l σ τ I Ix hY s0
  refine yE (vs := [_,_]) Tryz.func149 rfl Tryz.ntmps149 (by simp) ?_
  repeat (first|(first|refine zG ?_|refine zK ?_)|(first|((first|refine zA rfl ?_);first|refine zD rfl rfl ?_)))
  refine xU (β := { y : Nat × Nat // (dig n).drop y.1 = dig y.2 ∧ y.2 < 18446744073709551616 } × σ) (fun y => [(0,.func (.yield l) #[] #[]),(1,ptr r)]) (fun _ => []) (fun y => [I y.1.1.1 y.2,pt r (.cells #[.int .u64 ((y.1.1.2 : Nat) : Int)] 101 (0,0))]) (fun y => y.1.1.2)
    (⟨(0,n),by simp,hn⟩,s0) ?_ rfl (Ent.refl _) ?_
  · (repeat (first|exact zM _|refine zI rfl ?_))
  rintro ⟨⟨⟨i,m⟩,hd,hm⟩,s⟩
  dsimp only at hd hm ⊢
  have h0 : (dig n)[i]? = (dig m)[0]? := by rw [← hd];simp
  by_cases h : m < 128
  · rw [dig_lt h] at h0 hd
    have hlen : (dig n).length = i + 1 := by
      have := congrArg List.length hd
      simp at this
      omega
    repeat (first|(first|refine zB ?_|refine zE ?_|refine zG ?_|refine zJ rfl ?_|refine xA ?_)|(first|((first|refine zA rfl ?_);first|refine JOq (JQ_geqF rfl rfl (by omega)) rfl ?_|refine JOq (yX (a := m) rfl (wrap_u8 (by omega))) rfl ?_|refine zD rfl rfl ?_|refine zH rfl rfl ?_)))
    refine zA rfl (JO_yieldI (hY i _ s h0) rfl rfl rfl (fun s' => ?_) (fun s' => ?_))
    · repeat (first|(first|refine zE ?_)|(first|((first|refine zA rfl ?_);first|refine zD rfl rfl ?_)))
      exact seq_end (A := I (i + 1) s') rfl _ (.inr rfl) .sel (.inl ⟨s',by rw [hlen]⟩)
    · repeat (first|(first|refine zE ?_)|(first|((first|refine zA rfl ?_);first|refine zD rfl rfl ?_)))
      exact seq_end rfl _ (.inr rfl) .sel (.inr ⟨s',rfl⟩)
  · rw [dig_ge h] at h0 hd
    have hd2 : (dig n).drop (i + 1) = dig (m / 128) := by
      have := congrArg List.tail hd
      simpa [List.tail_drop] using this
    have h8 : ((m % 256 : Nat) : Int) = ((m % 256 : Nat) : Int) := rfl
    repeat (first|(first|refine zB ?_|refine zE ?_|refine zG ?_|refine zK ?_|refine zP ?_|refine zL rfl ?_)|(first|((first|refine zA rfl ?_);first|refine JOq (JQ_geqT rfl rfl (by omega)) rfl ?_|refine JOq (JQ_conv8 (a := m) rfl) rfl ?_|refine JOq (JQ_bitsV ((m % 128 : Nat) : Int) (.inr (.inr (.inr rfl))) rfl rfl (by rw [andNot8 (by omega)];congr 1;omega)) rfl ?_|refine zD rfl rfl ?_|refine zH rfl rfl ?_)))
    refine zA rfl (JO_yieldI (hY i _ s h0) rfl rfl rfl (fun s' => ?_) (fun s' => ?_))
    · repeat (first|(first|refine zB ?_|refine zE ?_|refine zP ?_|refine zJ rfl ?_)|(first|((first|refine zA rfl ?_);first|refine JOq (JQ_shrF (a := m) (s := 7) 128 rfl rfl (by decide) rfl) rfl ?_|refine zH rfl rfl ?_|refine xD rfl rfl ?_|refine zW rfl rfl (by first | rfl | assumption) rfl ?_)))
      exact ⟨(⟨(i + 1,m / 128),hd2,by omega⟩,s'),by simp only;omega,by (repeat (first|exact zM _|refine zI rfl ?_)),rfl,Ent.sel⟩
    · repeat (first|(first|refine zE ?_|refine zL rfl ?_|refine zV ?_)|(first|((first|refine zA rfl ?_);first|refine xD rfl rfl ?_)))
      exact seq_end rfl _ (.inl rfl) .sel (.inr ⟨s',rfl⟩)
set_option maxHeartbeats 1000000 in
theorem putu_c (b n : Nat) (pre : List UInt8) (hn : n < 18446744073709551616) (hp : pre.length ≤ 999000) : Ct Tryz.prog 41 #[ptr b,.int .u64 (n : Int)] [WrB b pre] (RetE (fun _ : Unit => True) (fun _ => .tuple #[]) (fun _ => [WrB b (pre ++ wY n)])) := by
  have hl := vM hn
  refine fn_retM (vs := [_,_]) Tryz.func41 rfl Tryz.ntmps41 (by simp) ?_
  repeat (first|(first|refine zB ?_|refine zE ?_|refine zG ?_|refine zK ?_)|(first|((first|refine zA rfl ?_);first|refine yK rfl (sevens_c n) rfl (fun q _ => ?_)|refine zD rfl rfl ?_|refine JO_box1 rfl rfl rfl (fun r => ?_))))
  refine J_range (σ := Unit) (τ := Empty) (fun i _ => [pt r (.cells #[ptr b] 93 (0,0)),WrB b (pre ++ (wY n).take i)]) Empty.elim Empty.elim rfl (sevens1_c q n hn) ?_ ?_ () ?_ ?_ ?_ ?_
  · intro x hx
    obtain ⟨i,hi,rfl⟩ := List.mem_iff_getElem.1 hx
    obtain ⟨c,_,h | ⟨h,_⟩⟩ := dig_get n i _ (List.getElem?_eq_getElem hi) <;> rw [h] <;> rfl
  · decide
  · rw [List.take_zero,List.append_nil]
    exact Ent.sel (K := [pt r (.cells #[ptr b] 93 (0,0)),WrB b pre,pt q (.cells #[.int .u64 (n : Int)] 101 (0,0))])
  · rintro l rec i x _ hx
    obtain ⟨c,hc,hx'⟩ := dig_get n i x hx
    have e : pre ++ (wY n).take (i + 1) = (pre ++ (wY n).take i) ++ [c] := by rw [List.take_add_one,hc];simp
    have hcn := c.toNat_lt
    have hw := wbyte_B b (pre ++ (wY n).take i) c (by rw [List.length_append,List.length_take];omega)
    rcases hx' with rfl | ⟨rfl,h128⟩
    · dsimp only
      repeat (first|(first|refine zB ?_|refine zE ?_|refine zG ?_|refine zK ?_|refine zP ?_|refine zJ rfl ?_)|(first|((first|refine zA rfl ?_);first|refine zD rfl rfl ?_|refine zC rfl rfl ?_|refine zH rfl rfl ?_|refine xD rfl rfl ?_|refine zN rfl (hw) rfl ?_)))
      refine ⟨(),?_⟩
      rw [e]
      exact .sel
    · dsimp only
      repeat (first|(first|refine zB ?_|refine zE ?_|refine zG ?_|refine zK ?_|refine zL rfl ?_)|(first|((first|refine zA rfl ?_);first|refine JOq (JQ_bitsV ((c.toNat : Nat) : Int) (.inr (.inl rfl)) rfl rfl (by rw [or8 (by omega)];congr 1;omega)) rfl ?_|refine zD rfl rfl ?_|refine zC rfl rfl ?_|refine zH rfl rfl ?_|refine xD rfl rfl ?_|refine zN rfl (hw) rfl ?_)))
      refine ⟨(),?_⟩
      rw [e]
      exact .sel
  · rintro rr _
    rw [dig_len,List.take_length]
    repeat (first|(first|refine zB ?_)|(first|((first|refine zA rfl ?_);first|refine zD rfl rfl ?_)))
    exact endM_none rfl () trivial .sel
  · rintro rr s
    exact s.elim
end Go.Proofs.YtickblndgihoeaaGreatDoor

/- Layer 2: whole numbers laid;what the laws use. -/
namespace Go.Proofs.YtickblndgihoeaaGreatDoor
open Go Go.Sp
theorem ct_er0 {f : FuncId} {args : Array Value} {L : List HP} {x : Value} {A : HP} (h : Ct Tryz.prog f args L (RetE (fun _ : Value => True) (fun v => .tuple #[x,v]) (fun v => [Er v 0 0,A]))) : Ct Tryz.prog f args L (wF (.tuple #[x,.nilIface]) [A]) := fun F w hs =>
  (h F w hs).mono fun e w' ⟨hne,L',⟨v,_,he,hL⟩,s⟩ => by
    subst hL
    obtain ⟨k,⟨a1,b1,c1,d1,e1,f1,g1⟩,m⟩ := s.swap
    rcases f1 with ⟨_,_,h4⟩ | ⟨h2,_⟩
    · subst h4
      exact ⟨hne,[A],⟨he,rfl⟩,⟨k,g1.le e1,m⟩⟩
    · exact absurd rfl h2
theorem ct_erF {f : FuncId} {args : Array Value} {L : List HP} {x : Value} {A : HP} {c a : Int} (hc : c ≠ 0) (h : Ct Tryz.prog f args L (RetE (fun _ : Value => True) (fun v => .tuple #[x,v]) (fun v => [Er v c a,A]))) : Ct Tryz.prog f args L (FailsV x c a [A]) := fun F w hs =>
  (h F w hs).mono fun e w' ⟨hne,L',⟨v,_,he,hL⟩,s⟩ => by
    subst hL
    obtain ⟨k,⟨a1,b1,c1,d1,e1,f1,g1⟩,m⟩ := s.swap
    rcases f1 with ⟨h2,_⟩ | ⟨_,q,h3,h4⟩
    · exact absurd h2 hc
    · subst h3
      exact ⟨hne,[Ft q c a,A],⟨q,he,rfl⟩,Sat.swap ⟨k,⟨a1,b1,c1,d1,e1,h4,g1⟩,m⟩⟩
theorem s_ok (b : Nat) (bs rest : List UInt8) (pl p2 : Int) (n : Nat) (hpl : 0 ≤ pl ∧ pl + bs.length ≤ 1000000) (hu : uA bs pl = ⟨n,0,0,rest,p2⟩) : Ct Tryz.prog 171 #[ptr b] [RdB b bs pl] (wF (.tuple #[.int .i64 (uB n),.nilIface]) [RdB b rest p2]) := by
  have h := s_E b bs pl hpl
  rw [hu] at h
  exact ct_er0 h
theorem sm_ok (b : Nat) (bs rest : List UInt8) (pl p2 most : Int) (n : Nat) (hpl : 0 ≤ pl ∧ pl + bs.length ≤ 1000000) (hm : most ≤ 9223372036854775807) (hu : uA bs pl = ⟨n,0,0,rest,p2⟩) (hn : (n : Int) ≤ most) : Ct Tryz.prog 104 #[ptr b,.int .i64 most] [RdB b bs pl] (wF (.tuple #[.int .i64 (n : Int),.nilIface]) [RdB b rest p2]) := by
  have h := sm_E b bs pl most hpl hm
  have hs : smA bs pl most = (n,0,0) := by
    unfold smA
    rw [hu]
    have h1 : ¬ (most < 0 ∨ most < (n : Int)) := by omega
    simp [h1]
  rw [hu,hs] at h
  exact ct_er0 h
theorem sm_bad (b : Nat) (bs rest : List UInt8) (pl p2 most c a : Int) (hpl : 0 ≤ pl ∧ pl + bs.length ≤ 1000000) (hm : most ≤ 9223372036854775807) (hr : (uA bs pl).rest = rest ∧ (uA bs pl).pl = p2) (hc : c ≠ 0) (hs : smA bs pl most = (0,c,a)) : Ct Tryz.prog 104 #[ptr b,.int .i64 most] [RdB b bs pl] (FailsV (.int .i64 0) c a [RdB b rest p2]) := by
  have h := sm_E b bs pl most hpl hm
  rw [hr.1,hr.2,hs] at h
  exact ct_erF hc h
attribute [local irreducible] callFunc Go.method J JL JO Ct JG JM JM1 JQ JQ0 JS CtD xB WrB RdB Er by8 ibits Gl
theorem puts_c (b : Nat) (z : Int) (pre : List UInt8) (hz : -9223372036854775808 ≤ z ∧ z ≤ 9223372036854775807) (hp : pre.length ≤ 999000) : Ct Tryz.prog 154 #[ptr b,.int .i64 z] [WrB b pre] (RetE (fun _ : Unit => True) (fun _ => .tuple #[]) (fun _ => [WrB b (pre ++ wY (foldZ z))])) := by
  have hp := putu_c b (foldZ z) pre (fold_lt hz) hp
  refine yE (vs := [_,_]) Tryz.func154 rfl Tryz.ntmps154 (by simp) ?_
  by_cases h0 : 0 ≤ z
  · have hf : ((foldZ z : Nat) : Int) = 2 * z := by unfold foldZ;rw [if_pos h0];omega
    repeat (first|(first|refine zB ?_|refine zE ?_)|(first|((first|refine zA rfl ?_);first|refine JOq (JQ_convV z rfl (by rw [wrap_u64i];omega)) rfl ?_|refine JOq (JQ_shlV (s := 1) (2 * z) rfl rfl (by decide) (by rw [wrap_u64i];omega)) rfl ?_|refine JOq (JQ_shrV (s := 63) 0 rfl rfl (by decide) (by omega)) rfl ?_|refine JOq (JQ_convV 0 rfl (by decide)) rfl ?_|refine JOq (JQ_bitsV ((foldZ z : Nat) : Int) (.inr (.inr (.inl rfl))) rfl rfl (by rw [← hf];exact xoru_0 (fold_lt hz))) rfl ?_|refine yK rfl hp rfl (fun _ _ => ?_)|refine zD rfl rfl ?_)))
    exact ⟨rfl,_,res_none rfl,_,Ent.sel,(),trivial,rfl,rfl⟩
  · have hf : foldZ z = 18446744073709551615 - (18446744073709551616 + 2 * z).toNat := by unfold foldZ;rw [if_neg h0];omega
    have hx : (((18446744073709551616 + 2 * z).toNat : Nat) : Int) = 18446744073709551616 + 2 * z := by omega
    repeat (first|(first|refine zB ?_|refine zE ?_)|(first|((first|refine zA rfl ?_);first|refine JOq (JQ_convV (18446744073709551616 + z) rfl (by rw [wrap_u64i];omega)) rfl ?_|refine JOq (JQ_shlV (s := 1) (18446744073709551616 + 2 * z) rfl rfl (by decide) (by rw [wrap_u64i];omega)) rfl ?_|refine JOq (JQ_shrV (s := 63) (-1) rfl rfl (by decide) (by omega)) rfl ?_|refine JOq (JQ_convV 18446744073709551615 rfl (by decide)) rfl ?_|refine JOq (JQ_bitsV ((foldZ z : Nat) : Int) (.inr (.inr (.inl rfl))) rfl rfl (by rw [← hx,xoru_m1 (by omega),hf])) rfl ?_|refine yK rfl hp rfl (fun _ _ => ?_)|refine zD rfl rfl ?_)))
    exact ⟨rfl,_,res_none rfl,_,Ent.sel,(),trivial,rfl,rfl⟩
end Go.Proofs.YtickblndgihoeaaGreatDoor

/- A text made bytes that are owned;stores into blocks that are frozen elsewhere;the front of a block as a text. -/
namespace Go.Sp
open Go.RowKit
section
variable {P : Program} {N : Nat} {rd : Option Nat} {E : Env} {D : List Deferred} {L : List HP} {Q : uF} {next : Env → List Deferred → List HP → Prop}
variable {d : Option Nat} {ty : TypeId} {pos : String} {after : Array Edge} {g : Option (Nat × Bool)}
theorem JO_bytesO {src dst e : TypeId} [TU P src .string] [TU P dst (.slice e)] [TU P e (.int .u8)] {x : Operand} {bs : List UInt8} (hx : ev E x = some (str bs)) (hd : dok N d = true)
    (h : ∀ b cap sp fz,bs.length ≤ cap → (∀ i,i < bs.length → ¬ (fz.1 ≤ i)) → next (put E d (.slice (some ⟨b,0,none⟩) bs.length cap)) D (pt b (.cells (by8 bs ++ sp).toArray e fz) :: L)) : JO P N rd ⟨d,.convert src dst x,ty,pos,after,g⟩ E D L next Q :=
  JO_value (fun c => by simp) hd fun F a w hr hs => by
    have h1 := run_bytes_of_string (P := P) w src dst e ⟨bs.toArray⟩ TU.h TU.h TU.h
    have e1 : (⟨bs.toArray⟩ : ByteArray).size = bs.length := by simp [ByteArray.size]
    rw [e1] at h1
    have e2 : bytesRow ⟨bs.toArray⟩ (grownCap w bs.length 0 e) = (by8 bs ++ List.replicate (grownCap w bs.length 0 e - bs.length) (Value.int .u8 0)).toArray := by
      apply Array.ext'
      simp [bytesRow,by8,e1]
    rw [e2] at h1
    have hC : bs.length ≤ (by8 bs ++ List.replicate (grownCap w bs.length 0 e - bs.length) (Value.int .u8 0)).toArray.size := by simp [by8]
    generalize (List.replicate (grownCap w bs.length 0 e - bs.length) (Value.int .u8 0)) = sp at h1 hC
    generalize hfz : ((by8 bs ++ sp).toArray.size,(by8 bs ++ sp).toArray.size + 1) = fz at h1
    have hf1 : fz.1 = (by8 bs ++ sp).toArray.size := by rw [← hfz]
    have e3 : (execOp a.eval ⟨d,.convert src dst x,ty,pos,after,g⟩).run P w = .ok (.value (.slice (some ⟨w.heap.size,0,none⟩) bs.length (grownCap w bs.length 0 e))) (w.drew.alloc (.cells (by8 bs ++ sp).toArray e fz)) := by simp [execOp,hr.eval hx,h1]
    refine ⟨_,_,pt w.heap.size (.cells (by8 bs ++ sp).toArray e fz) :: L,e3,?_,h w.heap.size (grownCap w bs.length 0 e) sp fz (grownCap_ge w bs.length 0 e) (fun i hi => by rw [hf1];omega)⟩
    exact (((hs.world (w' := w.drew) rfl).new (.cells (by8 bs ++ sp).toArray e fz))).swap
theorem run_storeCellF {w : World} {b off : Nat} {cs : List Value} {t : TypeId} {fz : Nat × Nat} {v u : Value} (h : w.heap[b]? = some (.cells cs.toArray t fz)) (hf : ¬ (fz.1 ≤ off)) (hu : cs[off]? = some u) (hv : v.oneCell' = true) :
    (store ⟨b,off,none⟩ v).run P w = .ok () (setObj w b (.cells (cs.set off v).toArray t fz)) := by
  rw [run_store _ _ _ _ _ hv,cell_of h hu]
  have : w.frozen? ⟨b,off,none⟩ = false := by simp [World.frozen?,h];omega
  simp [this,setCell_setObj h]
theorem JO_storeF {t : TypeId} {z : Value} {k : Nat} [TI P t z 1 k] {x y : Operand} {b off : Nat} {cs : List Value} {bt : TypeId} {fz : Nat × Nat} {v : Value} {L' : Obj → List HP} (hx : ev E x = some (.pointer (some ⟨b,off,none⟩))) (hy : ev E y = some v)
    [hb : WB L b (.cells cs.toArray bt fz) L'] (hf : ¬ (fz.1 ≤ off)) (ho : off < cs.length) (hv : v.oneCell' = true) (hd : dok N d = true) (h : next (put E d undef) D (L' (.cells (cs.set off v).toArray bt fz))) : JO P N rd ⟨d,.store t x y,ty,pos,after,g⟩ E D L next Q :=
  JO_unit (fun c => by simp) hd fun F a w hr hs' => by
    obtain ⟨i,h1,h2,h3,h4⟩ := TI.h (P := P) (t := t) (z := z) (n := 1) (b := k)
    obtain ⟨hb1,hb2⟩ := hb.h F w hs'
    have hc := One.cells hv
    have hst := run_storeCellF (P := P) hb1 hf (List.getElem?_eq_getElem ho) hv
    refine ⟨_,_,?_,hb2 _,h⟩
    simp [execOp,Instr.storeAt,Instr.sureAddr,hr.eval hx,hr.eval hy,storeVar,hc,vK h1,h3,storeCells,Addr.add,hst]
theorem JQ_strF {src dst e : TypeId} [TU P src (.slice e)] [TU P e (.int .u8)] [TU P dst .string] {x : Operand} (bs : List UInt8) {b n cap : Nat} {bt : TypeId} {fz : Nat × Nat} {cs : List Value} (hx : ev E x = some (.slice (some ⟨b,0,none⟩) n cap)) [hb : HB L b (.cells cs.toArray bt fz)] (hn : n = bs.length)
    (hc : ∀ (j : Nat) (c : UInt8),bs[j]? = some c → cs[j]? = some (.int .u8 ((c.toNat : Nat) : Int))) : JQ P N ⟨d,.convert src dst x,ty,pos,after,g⟩ E D L (str bs) := fun F a hr w hs => by
  subst hn
  have hrun : (convert src dst (.slice (some ⟨b,0,none⟩) bs.length cap)).run P w = .ok (.string ⟨bs.toArray⟩) w := by
    refine run_convert_bytes_back w src dst e ⟨b,0,none⟩ cap bs TU.h TU.h TU.h fun j hj => ?_
    rw [addr_add,Nat.zero_add]
    exact cell_of (hb.h F w hs) (hc j _ (List.getElem?_eq_getElem hj))
  simp [execOp,hr.eval hx,hrun]
end
end Go.Sp

/- Results of which two are in cells. -/
namespace Go.Sp
open Go.RowKit
section
variable {P : Program} {N : Nat} {E : Env} {D : List Deferred} {L : List HP}
def Gives (P : Program) (E : Env) (L : List HP) (a t : Nat) (v : Value) : Prop := ∃ b : Nat,Env.get E a = some (.pointer (some ⟨b,0,none⟩)) ∧ ∀ F (w : World),Sat w (F :: L) → (loadVar t ⟨b,0,none⟩).run P w = .ok v w
theorem gives_1 {a t : Nat} [T1 P t] {b : Nat} {v : Value} {cs : List Value} {bt : TypeId} {fz : Nat × Nat} (hv : Env.get E a = some (.pointer (some ⟨b,0,none⟩))) [hb : HB L b (.cells cs.toArray bt fz)] (hg : cs[0]? = some v) : Gives P E L a t v :=
  ⟨b,hv,fun F w hs => by
    have h2 : w.cell? ⟨b,0,none⟩ = some v := wB (h := hb) hg F w hs
    simp [loadVar,run_isAgg1 (P := P) (t := t),h2]⟩
theorem yV {a t n : Nat} [TA P t n] {b : Nat} {cs : List Value} {bt : TypeId} {fz : Nat × Nat} (hv : Env.get E a = some (.pointer (some ⟨b,0,none⟩))) [hb : HB L b (.cells cs.toArray bt fz)] (hn : cs.length = n) : Gives P E L a t (.agg cs.toArray) :=
  ⟨b,hv,fun _ _ hs => run_loadVarW (P := P) (L := L) (t := t) (n := n) (b := b) (cs := cs) (bt := bt) (fz := fz) hn hs⟩
theorem uO {fn : Func} {a t c u : Nat} {v x : Value} (h : fn.results = #[.cell a t,.cell c u]) (h1 : Gives P E L a t v) (h2 : Gives P E L c u x) : Res P N fn E L (.tuple #[v,x]) := fun F ac w D hr hs => by
  obtain ⟨b,hb,hl⟩ := h1
  obtain ⟨b2,hb2,hl2⟩ := h2
  have e1 : (ac.tmps.getD a undef) = .pointer (some ⟨b,0,none⟩) := hr.eval (x := .tmp a) hb
  have e2 : (ac.tmps.getD c undef) = .pointer (some ⟨b2,0,none⟩) := hr.eval (x := .tmp c) hb2
  have e1 := Array.getD_eq_getD_getElem? .. ▸ e1
  have e2 := Array.getD_eq_getD_getElem? .. ▸ e2
  simp [results,h,e1,e2,asAddr,hl F w hs,hl2 F w hs]
theorem res_ct {fn : Func} {a t u : Nat} {v x : Value} (h : fn.results = #[.cell a t,.tmp u]) (h1 : Gives P E L a t v) (hx : Env.get E u = some x) : Res P N fn E L (.tuple #[v,x]) := fun F ac w D hr hs => by
  obtain ⟨b,hb,hl⟩ := h1
  have e1 : (ac.tmps.getD a undef) = .pointer (some ⟨b,0,none⟩) := hr.eval (x := .tmp a) hb
  have h4 : (ac.tmps.getD u undef) = x := hr.eval (x := .tmp u) hx
  have e1 := Array.getD_eq_getD_getElem? .. ▸ e1
  simp [results,h,e1,← h4,asAddr,hl F w hs]
end
section
variable {P : Program} {N : Nat} {rd : Option Nat} {E : Env} {D : List Deferred} {L : List HP} {Q : uF} {next : Env → List Deferred → List HP → Prop}
variable {d : Option Nat} {ty : TypeId} {pos : String} {after : Array Edge} {g : Option (Nat × Bool)}
theorem run_mark {w : World} {b n c : Nat} {cs : List Value} {t e bt : TypeId} (ht : P.underlying t = some (.slice e)) (he : P.underlying e = some (.int .u8)) (h : w.heap[b]? = some (.cells cs.toArray bt (0,0))) :
    (convert t t (.slice (some ⟨b,0,none⟩) n c)).run P w = .ok (.slice (some ⟨b,0,none⟩) n c) (setObj w b (.cells cs.toArray bt (cs.length,cs.length + 1))) := by
  have hsh : w.shape? b = some (bt,cs.length) := by
    unfold World.shape?
    rw [h]
    simp
  have hfr : w.freeze ⟨b,cs.length,none⟩ 1 = setObj w b (.cells cs.toArray bt (cs.length,cs.length + 1)) := by
    unfold World.freeze setObj
    rw [if_neg (by decide)]
    congr 1
    obtain ⟨hb,ho⟩ := Array.getElem?_eq_some_iff.1 h
    apply Array.ext
    · simp
    · intro i h1 h2
      simp only [Array.getElem_modify]
      by_cases hi : b = i
      · subst hi
        simp [ho]
      · rw [Array.getElem_setIfInBounds_ne (by simpa using h1) hi]
        simp [hi]
  simp [convert,yM ht,yM he,markStringish,hsh,hfr]
theorem JO_mark {t e : TypeId} [TU P t (.slice e)] [TU P e (.int .u8)] {x : Operand} {b n c : Nat} {cs : List Value} {bt : TypeId} {L' : Obj → List HP} (hx : ev E x = some (.slice (some ⟨b,0,none⟩) n c)) [hb : WB L b (.cells cs.toArray bt (0,0)) L'] (hd : dok N d = true)
    (h : next (put E d (.slice (some ⟨b,0,none⟩) n c)) D (L' (.cells cs.toArray bt (cs.length,cs.length + 1)))) : JO P N rd ⟨d,.convert t t x,ty,pos,after,g⟩ E D L next Q :=
  JO_value (fun c => by simp) hd fun F a w hr hs => by
    obtain ⟨hb1,hb2⟩ := hb.h F w hs
    have h3 := run_mark (P := P) (n := n) (c := c) (TU.h (P := P) (t := t)) (TU.h (P := P) (t := e)) hb1
    exact ⟨_,_,_,by simp [execOp,hr.eval hx,h3],hb2 _,h⟩
theorem yR (off : Nat) {t e len : Nat} [TU P t (.array len e)] {z : Value} {n k : Nat} [TI P e z n k] {x y : Operand} {b o j : Nat} {ik : IntKind} (hx : ev E x = some (.pointer (some ⟨b,o,none⟩))) (hy : ev E y = some (.int ik (j : Int))) (hj : j < len) (hf : o + j * n = off) :
    JQ P N ⟨d,.indexAddr t x y,ty,pos,after,g⟩ E D L (.pointer (some ⟨b,off,none⟩)) := by
  rw [← hf]
  exact JQ_indexPA hx hy hj
end
end Go.Sp

/- Regions that draw their order,in a round of a range over a function. -/
namespace Go.Sp
open Go.RowKit
section
variable {P : Program} {N : Nat} {rd : Option Nat} {E : Env} {D : List Deferred} {L : List HP} {Q : uF}
variable (P N rd) in
def JR (ops : Array Oper) (fuel : Nat) (ls : List Bool) (E : Env) (D : List Deferred) (L : List HP) (Q : uF) : Prop :=
  ∀ (F : HP) (a : Act) (w : World),Rep N E D a → Sat w (F :: L) → wpAnyIn (FW rd) 0 P .any ops (lift N F Q) fuel ls.toArray a w
variable (P N rd) in
def JR1 (ops : Array Oper) (fuel : Nat) (ls : List Bool) (i : Nat) (E : Env) (D : List Deferred) (L : List HP) (Q : uF) : Prop :=
  ∀ (F : HP) (a : Act) (w : World),Rep N E D a → Sat w (F :: L) → wpOpIn (FW rd) 0 P ops (lift N F Q) i (wpAnyIn (FW rd) 0 P .any ops (lift N F Q) fuel (ls.set i true).toArray) a w
variable (P N rd) in
def JRl (ops : Array Oper) (fuel : Nat) (ls : List Bool) (E : Env) (D : List Deferred) (L : List HP) (Q : uF) : List Nat → Prop
  | [] => True
  | i :: r => (match rdy ops ls i with | true => JR1 P N rd ops fuel ls i E D L Q | false => True) ∧ JRl ops fuel ls E D L Q r
theorem jrl_mem {ops : Array Oper} {fuel : Nat} {ls : List Bool} : ∀ {r : List Nat},JRl P N rd ops fuel ls E D L Q r → ∀ i ∈ r,rdy ops ls i = true → JR1 P N rd ops fuel ls i E D L Q := by
  intro r
  induction r with
  | nil => intro _ i hi;cases hi
  | cons j r ih =>
    rintro ⟨h1,h2⟩ i hi hr
    simp only [List.mem_cons] at hi
    rcases hi with rfl | hi
    · rw [hr] at h1;exact h1
    · exact ih h2 i hi hr
theorem J_regionR [Mixed P] {id : Nat} {ops : Array Oper} (h : JR P N rd ops (cnt ops.toList) (flags ops.toList) E D L Q) : J P N rd (.region id ops true) E D L Q := fun F a w hr hs => by
  refine wpIn_region_any Mixed.h ?_
  have := h F a { w with drawn := w.drawn + 1 } hr (hs.world rfl)
  rw [flags_eq,cnt_eq,List.toArray_replicate,Array.length_toList] at this
  exact this
theorem jrl_nil {ops : Array Oper} {fuel : Nat} {ls : List Bool} : JRl P N rd ops fuel ls E D L Q [] := trivial
theorem jrl_no {ops : Array Oper} {fuel i : Nat} {ls : List Bool} {r : List Nat} (h : rdy ops ls i = false) (h2 : JRl P N rd ops fuel ls E D L Q r) : JRl P N rd ops fuel ls E D L Q (i :: r) := ⟨by rw [h];trivial,h2⟩
theorem jrl_yes {ops : Array Oper} {fuel i : Nat} {ls : List Bool} {r : List Nat} (h : rdy ops ls i = true) (h1 : JR1 P N rd ops fuel ls i E D L Q) (h2 : JRl P N rd ops fuel ls E D L Q r) : JRl P N rd ops fuel ls E D L Q (i :: r) := ⟨by rw [h];exact h1,h2⟩
theorem JR_step {ops : Array Oper} {fuel : Nat} {ls : List Bool} (hne : orL (rdy ops ls) (idxs ops.toList 0) = true) (h : JRl P N rd ops fuel ls E D L Q (idxs ops.toList 0)) : JR P N rd ops (fuel + 1) ls E D L Q := by
  rw [orL_eq] at hne
  rw [← idxs_range] at hne h
  intro F a w hr hs
  refine ⟨fun h0 => ?_,fun i hi => ?_⟩
  · exfalso
    rw [rdy_eq,List.filter_eq_nil_iff] at h0
    rw [List.any_eq_true] at hne
    obtain ⟨i,h1,h2⟩ := hne
    exact h0 i h1 h2
  · rw [rdy_eq,List.mem_filter] at hi
    have := jrl_mem h i hi.1 hi.2 F a w hr hs
    rw [List.setIfInBounds_toArray]
    exact this
theorem JR_end {ops : Array Oper} {fuel : Nat} {ls : List Bool} (hne : orL (rdy ops ls) (idxs ops.toList 0) = false) (h : Q .normal E D L) : JR P N rd ops fuel ls E D L Q := by
  rw [orL_eq,← idxs_range] at hne
  intro F a w hr hs
  have h0 : Region.ready .any ops ls.toArray = [] := by
    rw [rdy_eq,List.filter_eq_nil_iff]
    intro i hi hr
    rw [List.any_eq_false] at hne
    exact hne i hi hr
  cases fuel with
  | zero => exact ⟨h0,E,D,L,h,hr,hs⟩
  | succ fuel => exact ⟨fun _ => ⟨E,D,L,h,hr,hs⟩,fun i hi => by rw [h0] at hi;cases hi⟩
theorem JR_op {ops : Array Oper} {fuel i : Nat} {ls : List Bool} {o : Oper} (ho : ops.toList[i]? = some o) (hg : o.guard = none) (h : JO P N rd o E D L (fun E' D' L' => JR P N rd ops fuel (ls.set i true) E' D' L' Q) Q) : JR1 P N rd ops fuel ls i E D L Q := by
  intro F a w hr hs
  rw [Array.getElem?_toList] at ho
  simp only [wpOpIn,ho,Region.wanted,hg,if_true]
  exact h F a w hr hs _ fun E' D' L' a' w' hn hr' hs' => hn F a' w' hr' hs'
end
end Go.Sp

/- Drawn regions that read and then store: one that reads,by its number. -/
namespace Go.Sp
open Go.RowKit
section
variable {P : Program} {N : Nat} {E : Env} {D : List Deferred} {L L0 : List HP} {Q : uF} {m : Nat}
theorem yO [hc : CalmQ Q] {ops : Array Oper} {fuel : Nat} {ls : List Bool} (i : Nat) {o : Oper} {v : Value} (ho : ops.toList[i]? = some o) (hg : o.guard = none) (hs : Region.noSelect ops = true) (hf : Region.free .any ops ls.toArray i = true)
    (hr : (Region.ready .any ops ls.toArray).contains i = true) (hmi : Nat.beq m i = false) (hm : (match ops.toList[m]? with | some om => depB om i | none => false) = true) (hu : ls.getD m true = false) (hd : dok N o.dst = true) (hl : Ent L L0) (hq : JQ P N o E D L0 v)
    (h : JM P N ops m fuel (ls.set i true) (put E o.dst v) D L L0 Q) : JM P N ops m (fuel + 1) ls E D L L0 Q := by
  intro F a w hrep hsat _
  rw [Array.getElem?_toList] at ho
  have hmi' : m ≠ i := fun e => by rw [e] at hmi;simp at hmi
  have hready : i ∈ Region.ready .any ops ls.toArray := by simpa using hr
  refine wpAnyM_first (U := fun w => Sat w (F :: L0)) (v := v) ho (Region.noSelect_spec hs) hmi' ?_ fuel ls.toArray a w (Region.free_spec ho hf) hready ?_ (.inl ⟨by simp [Region.wanted,hg],fun w hw => hq F a hrep w hw⟩) (hl F w hsat) (fun _ => hl F w hsat) ?_
  · rintro c a' w' ⟨E',D',L',q,_⟩
    exact absurd q (hc.h c E' D' L')
  · refine .inr ⟨fun _ h => h,by rw [getD_toArray];exact hu,?_⟩
    split at hm
    · rename_i om hom
      refine ⟨om,by rw [Array.getElem?_toList] at hom;exact hom,?_⟩
      unfold depB at hm
      rw [List.any_eq_true] at hm
      obtain ⟨e,he,hb⟩ := hm
      simp only [Bool.and_eq_true] at hb
      exact ⟨e,Array.mem_toList_iff.1 he,hb.1,Nat.eq_of_beq_eq_true hb.2⟩
    · cases hm
  · have := h F (a.put o.dst v) w (hrep.put hd v) hsat (fun _ => hl)
    rw [List.setIfInBounds_toArray]
    exact this
end
end Go.Sp

/- Bools compared,in drawn regions. -/
namespace Go.Sp
open Go.RowKit
theorem Sat.rot {A : HP} {L : List HP} {w : World} (h : Sat w (A :: L)) : Sat w (L ++ [A]) := h.perm (List.perm_append_comm (l₁ := [A]) (l₂ := L))
section
variable {P : Program} {N : Nat} {E : Env} {D : List Deferred} {L L0 : List HP} {Q : uF} {m : Nat}
variable {d : Option Nat} {ty : TypeId} {pos : String} {after : Array Edge} {g : Option (Nat × Bool)}
theorem JQ_neB {x y : Operand} {t u : TypeId} [TU P t .bool] {m n : Bool} (hx : ev E x = some (.bool m)) (hy : ev E y = some (.bool n)) : JQ P N ⟨d,.binOp .neq t x y u,ty,pos,after,g⟩ E D L (.bool (m != n)) := fun F a hr w hs => by
  simp [execOp,hr.eval hx,hr.eval hy,eqGuard,binOp,run_eqB];cases m <;> cases n <;> rfl
theorem JQ_neB0 {x y : Operand} {t u : TypeId} [TU P t .bool] {m : Bool} (hx : ev E x = some (.bool m)) (hy : ev E y = some (.bool m)) : JQ P N ⟨d,.binOp .neq t x y u,ty,pos,after,g⟩ E D L (.bool false) := by
  have := JQ_neB (P := P) (N := N) (D := D) (L := L) (d := d) (ty := ty) (pos := pos) (after := after) (g := g) (t := t) (u := u) hx hy
  rwa [bne_self_eq_false] at this
end
end Go.Sp

/- Arrays built of their parts. -/
namespace Go.Sp
open Go.RowKit
section
variable {P : Program} {N : Nat} {rd : Option Nat} {E : Env} {D : List Deferred} {L : List HP} {Q : uF} {next : Env → List Deferred → List HP → Prop}
variable {d : Option Nat} {ty : TypeId} {pos : String} {after : Array Edge} {g : Option (Nat × Bool)}
end
end Go.Sp

/- Texts that differ;arrays of three texts that are the same. -/
namespace Go.Sp
open Go.RowKit
section
variable {P : Program} {N : Nat} {rd : Option Nat} {E : Env} {D : List Deferred} {L : List HP} {Q : uF} {next : Env → List Deferred → List HP → Prop}
variable {d : Option Nat} {ty : TypeId} {pos : String} {after : Array Edge} {g : Option (Nat × Bool)}
end
end Go.Sp

/- Drawn regions,wherever they stand (in a round of a range over a function,too),that read,call,hand to yield,and store: what only reads is taken first. -/
namespace Go.Sp
open Go.RowKit
def need (m : Option Nat) (l : Array Bool) : Bool := match m with | none => true | some k => !(l.getD k true)
def noDefer (ops : Array Oper) : Bool := ops.toList.all fun o => match o.op with | .defer _ => false | _ => true
theorem noDefer_spec {ops : Array Oper} (h : noDefer ops = true) : ∀ (j : Nat) (o : Oper) c,ops[j]? = some o → o.op ≠ .defer c := fun j o c hj he => by
  unfold noDefer at h
  rw [List.all_eq_true] at h
  have := h o (List.mem_of_getElem? (by rw [Array.getElem?_toList];exact hj))
  rw [he] at this
  cases this
section
variable {P : Program} {ops : Array Oper} {Q : Exit → Act → World → Prop} {rd : Option Nat} {m : Option Nat} {T U : World → Prop}
def wpAnyW (rd : Option Nat) (P : Program) (ops : Array Oper) (Q : Exit → Act → World → Prop) (m : Option Nat) (T : World → Prop) : Nat → Array Bool → Act → World → Prop
  | 0,l,a,w => Region.ready .any ops l = [] ∧ Q .normal a w
  | fuel + 1,l,a,w => (Region.ready .any ops l = [] → Q .normal a w) ∧
    ∀ i ∈ Region.ready .any ops l,wpOpIn (FW rd) 0 P ops Q i (fun a' w' => (need m (l.setIfInBounds i true) = true → T w') ∧ wpAnyW rd P ops Q m T fuel (l.setIfInBounds i true) a' w') a w
theorem wpAnyIn_of_W : ∀ (fuel : Nat) (l : Array Bool) (a : Act) (w : World),wpAnyW rd P ops Q m T fuel l a w → wpAnyIn (FW rd) 0 P .any ops Q fuel l a w
  | 0,_,_,_,h => h
  | fuel + 1,_,_,_,h => ⟨h.1,fun i hi => wpOpIn_mono (fun a' w' h' => wpAnyIn_of_W fuel _ a' w' h'.2) (h.2 i hi)⟩
theorem yieldsIf_wpOpIn {i : Nat} {o : Oper} {v : Value} {a : Act} (hi : ops[i]? = some o) (hnd : ∀ c,o.op ≠ .defer c) (hy : YieldsIf P ops U o v a)
    {K : Act → World → Prop} {w : World} (hU : U w) (h : K (a.put o.dst v) w) : wpOpIn (FW rd) 0 P ops Q i K a w := by
  unfold Go.wpOpIn
  simp only [hi]
  rcases hy with ⟨hw,hv⟩ | ⟨hw,rfl⟩
  · simp only [hw,if_true,Oper.wpIn,Oper.semAt_eq _ _ _ hnd,hv w hU,Oper.uponIn];exact ⟨fun _ _ => trivial,h⟩
  · simp only [hw,Bool.false_eq_true,if_false];exact ⟨fun _ _ => trivial,h⟩
theorem wpOpIn_putIf {j : Nat} {oi oj : Oper} {v : Value} (hj : ops[j]? = some oj) (hap : oi.apart ops oj = true) (hndj : ∀ c,oj.op ≠ .defer c)
    (hsi : ∀ cs b,oi.op ≠ .select cs b) (hsj : ∀ cs b,oj.op ≠ .select cs b)
    (hQ : ∀ c a w,Q (.panic c) (a.put oi.dst v) w → Q (.panic c) a w) {K : Act → World → Prop} {a : Act} {w : World}
    (hy : YieldsIf P ops U oi v a) (h : wpOpIn (FW rd) 0 P ops Q j K (a.put oi.dst v) w) :
    wpOpIn (FW rd) 0 P ops Q j (fun a' w' => YieldsIf P ops U oi v a' ∧ K (a'.put oi.dst v) w') a w := by
  obtain ⟨h1,h2,h3⟩ := Oper.apart_spec hap
  have keep : ∀ (a : Act),YieldsIf P ops U oi v a → ∀ u,YieldsIf P ops U oi v (a.put oj.dst u) := fun a hy u =>
    hy.of_same (execOp_put oi hsi a oj.dst u h3) (wanted_put oi a oj.dst u h3)
  have keepD : ∀ d,YieldsIf P ops U oi v { a with defers := d :: a.defers } := fun d => hy.of_same rfl rfl
  unfold wpOpIn at *
  simp only [hj] at *
  rw [wanted_put oj a oi.dst v h1] at h
  split
  · rename_i hw
    simp only [hw,if_true] at h
    unfold Oper.wpIn at *
    refine ⟨fun _ _ => trivial,?_⟩
    have h := h.2
    rw [Oper.semAt_eq _ _ _ hndj,execOp_put oj hsj a oi.dst v h1] at h
    rw [Oper.semAt_eq _ _ _ hndj]
    generalize (execOp a.eval oj).run P w = r at *
    cases r with
    | ok x w' =>
      cases x <;> simp only [Oper.uponIn] at h ⊢
      case value u => exact ⟨keep a hy u,by rw [← Act.put_comm a v u h2];exact h⟩
      case skip => exact ⟨keep a hy _,by rw [← Act.put_comm a v undef h2];exact h⟩
      case defer d =>
        refine ⟨keep _ (keepD d) _,?_⟩
        rw [← Act.put_comm _ v undef h2,← Act.put_defers]
        exact h
      case enter f args =>
        refine ⟨h.1,CallsIn.mono h.2 fun e w'' he => ?_⟩
        cases e with
        | returned u => exact ⟨keep a hy u,by rw [← Act.put_comm a v u h2];exact he⟩
        | panicked c => exact hQ _ _ _ he
        | outgrown => exact he
      case row row args => exact ⟨h.1,RowsIn.mono h.2 fun u w'' he => ⟨keep a hy u,by rw [← Act.put_comm a v u h2];exact he⟩⟩
      case round l f tmps assign body =>
        refine ⟨h.1,RoundIn.mono h.2 fun e w'' he => ?_⟩
        cases e with
        | returned u => exact ⟨keep a hy u,by rw [← Act.put_comm a v u h2];exact he⟩
        | panicked c => exact hQ _ _ _ he
        | outgrown => exact he
    | halt x w' =>
      cases x <;> simp only [Oper.uponIn] at h ⊢
      case panic u => exact hQ _ _ _ h
  · rename_i hw
    simp only [hw] at h
    exact ⟨fun _ _ => trivial,keep a hy _,by rw [← Act.put_comm a v undef h2];exact h.2⟩
def GoodW (ops : Array Oper) (m : Option Nat) (i : Nat) (T U : World → Prop) (l : Array Bool) : Prop :=
  (∀ w,U w) ∨ ((∀ w,T w → U w) ∧ match m with | none => True | some k => l.getD k true = false ∧ ∃ om,ops[k]? = some om ∧ ∃ e ∈ om.after,Region.binds .any e = true ∧ e.on = i)
theorem need_set {m : Option Nat} {l : Array Bool} {i j : Nat} (hmi : m ≠ some i) : need m ((l.setIfInBounds i true).setIfInBounds j true) = need m (l.setIfInBounds j true) := by
  cases m with
  | none => rfl
  | some k =>
    have hk : i ≠ k := fun e => hmi (by rw [e])
    simp only [need]
    by_cases hji : j = i
    · subst hji
      rw [Array.setIfInBounds_setIfInBounds]
    · rw [Array.setIfInBounds_comm _ _ (Ne.symm hji),getD_set_ne true hk]
theorem need_one {m : Option Nat} {l : Array Bool} {i : Nat} (hmi : m ≠ some i) : need m (l.setIfInBounds i true) = need m l := by
  cases m with
  | none => rfl
  | some k =>
    have hk : i ≠ k := fun e => hmi (by rw [e])
    simp only [need]
    rw [getD_set_ne true hk]
theorem wpAnyW_first {i : Nat} {oi : Oper} {v : Value} (hi : ops[i]? = some oi) (hsel : ∀ (j : Nat) (o : Oper) cs b,ops[j]? = some o → o.op ≠ .select cs b) (hnd : ∀ (j : Nat) (o : Oper) c,ops[j]? = some o → o.op ≠ .defer c) (hmi : m ≠ some i)
    (hQ : ∀ c a w,Q (.panic c) (a.put oi.dst v) w → Q (.panic c) a w) :
    ∀ (fuel : Nat) (l : Array Bool) (a : Act) (w : World),
      (∀ j oj,ops[j]? = some oj → j ≠ i → l.getD j true = false → (∀ e ∈ oj.after,Region.binds .any e = true → e.on ≠ i) → oi.apart ops oj = true) →
      i ∈ Region.ready .any ops l → GoodW ops m i T U l → YieldsIf P ops U oi v a → U w → (need m l = true → T w) →
      wpAnyW rd P ops Q m T fuel (l.setIfInBounds i true) (a.put oi.dst v) w → wpAnyW rd P ops Q m T (fuel + 1) l a w := by
  intro fuel
  induction fuel with
  | zero =>
    intro l a w _ hr _ hy hU hT H
    refine ⟨fun h => (by rw [h] at hr;cases hr),fun j hj => ?_⟩
    by_cases hji : j = i
    · subst hji
      exact yieldsIf_wpOpIn hi (fun c => hnd _ _ c hi) hy hU ⟨fun hf => hT (by rw [need_one hmi] at hf;exact hf),H⟩
    · have := ready_mono hj hji
      rw [H.1] at this
      cases this
  | succ fuel ih =>
    intro l a w hfree hr hgood hy hU hT H
    refine ⟨fun h => (by rw [h] at hr;cases hr),fun j hj => ?_⟩
    by_cases hji : j = i
    · subst hji
      exact yieldsIf_wpOpIn hi (fun c => hnd _ _ c hi) hy hU ⟨fun hf => hT (by rw [need_one hmi] at hf;exact hf),H⟩
    · have h1 := H.2 j (ready_mono hj hji)
      obtain ⟨hjun,oj,hoj,hall⟩ := mem_ready.1 hj
      have hnot : ∀ e ∈ oj.after,Region.binds .any e = true → e.on ≠ i := fun e he hb heq => by
        have h1 := hall e he hb
        rw [heq,unlisted (mem_ready.1 hr).1] at h1
        cases h1
      have h2 := wpOpIn_putIf hoj (hfree j oj hoj hji hjun hnot) (fun c => hnd _ _ c hoj) (fun cs b => hsel i oi cs b hi) (fun cs b => hsel j oj cs b hoj) hQ hy h1
      have hfree' : ∀ k ok,ops[k]? = some ok → k ≠ i → (l.setIfInBounds j true).getD k true = false →
          (∀ e ∈ ok.after,Region.binds .any e = true → e.on ≠ i) → oi.apart ops ok = true := fun k ok hk hki hun hno => by
        refine hfree k ok hk hki ?_ hno
        by_cases hjk : j = k
        · subst hjk;exact hjun
        · rw [getD_set_ne true hjk] at hun;exact hun
      have hgood' : GoodW ops m i T U (l.setIfInBounds j true) ∧ ∀ w',(need m (l.setIfInBounds j true) = true → T w') → U w' := by
        rcases hgood with hg | ⟨hg1,hg2⟩
        · exact ⟨.inl hg,fun w' _ => hg w'⟩
        · cases m with
          | none => exact ⟨.inr ⟨hg1,trivial⟩,fun w' h => hg1 w' (h rfl)⟩
          | some k =>
            obtain ⟨hg2,om,hg3,hg4⟩ := hg2
            have hjm : j ≠ k := by
              intro h
              subst h
              rw [hoj] at hg3
              cases hg3
              obtain ⟨e,he,hb,hon⟩ := hg4
              exact hnot e he hb hon
            have hf : (l.setIfInBounds j true).getD k true = false := by rw [getD_set_ne true hjm];exact hg2
            exact ⟨.inr ⟨hg1,hf,om,hg3,hg4⟩,fun w' h => hg1 w' (h (by simp only [need,hf];rfl))⟩
      refine wpOpIn_mono (fun a' w' h3 => ?_) h2
      have hT' : need m (l.setIfInBounds j true) = true → T w' := fun hf => h3.2.1 (by rw [need_set hmi];exact hf)
      refine ⟨hT',ih (l.setIfInBounds j true) a' w' hfree' (ready_mono hr (Ne.symm hji)) hgood'.1 h3.1 (hgood'.2 w' hT') hT' ?_⟩
      rw [Array.setIfInBounds_comm _ _ hji]
      exact h3.2.2
end
section
variable {P : Program} {N : Nat} {rd : Option Nat} {E : Env} {D : List Deferred} {L L0 : List HP} {Q : uF} {m : Option Nat}
variable (P N rd) in
def JW (ops : Array Oper) (m : Option Nat) (fuel : Nat) (ls : List Bool) (E : Env) (D : List Deferred) (L L0 : List HP) (Q : uF) : Prop :=
  ∀ (F : HP) (a : Act) (w : World),Rep N E D a → Sat w (F :: L) → (need m ls.toArray = true → Ent L L0) → wpAnyW rd P ops (lift N F Q) m (fun w => Sat w (F :: L0)) fuel ls.toArray a w
theorem tG [Mixed P] (m : Option Nat) (L0 : List HP) {id : Nat} {ops : Array Oper} (hl : Ent L L0) (h : JW P N rd ops m (cnt ops.toList) (flags ops.toList) E D L L0 Q) : J P N rd (.region id ops true) E D L Q := fun F a w hr hs => by
  refine wpIn_region_any Mixed.h (wpAnyIn_of_W (m := m) (T := fun w => Sat w (F :: L0)) _ _ _ _ ?_)
  have := h F a { w with drawn := w.drawn + 1 } hr (hs.world rfl) (fun _ => hl)
  rw [flags_eq,cnt_eq,List.toArray_replicate,Array.length_toList] at this
  exact this
def wantL (ops : Array Oper) (E : Env) : Option (Nat × Bool) → Option Bool
  | none => some true
  | some (j,w) => match gnone ops E j with
    | true => some false
    | false => match gval ops E j with
      | some b => some (b == w)
      | none => none
theorem wantL_ok {ops : Array Oper} {o : Oper} {b : Bool} (h : wantL ops E o.guard = some b) (a : Act) (hr : Rep N E D a) : Region.wanted o (yielded ops a.tmps) = b := by
  cases hg : o.guard with
  | none => rw [hg] at h;cases h;simp [Region.wanted,hg]
  | some x =>
    obtain ⟨j,w⟩ := x
    rw [hg] at h
    simp only [wantL] at h
    split at h
    · rename_i hn
      cases h
      simp only [Region.wanted,hg,gnone_of hr hn]
      cases w <;> rfl
    · split at h
      · rename_i b' hb
        cases h
        simp only [Region.wanted,hg,yielded_of hr hb]
        cases b' <;> cases w <;> rfl
      · cases h
def pureO (o : Oper) : Bool := match o.op with
  | .move _ | .assign _ | .pick .. | .field .. | .fieldAddr .. | .load .. | .index .. | .indexAddr .. | .extract .. | .binOp .. | .unOp .. | .convert .. | .nilCheck _ | .slice .. | .makeInterface .. | .build .. => true
  | .call ⟨.builtin _,_,_⟩ => true
  | _ => false
def wantIs (ops : Array Oper) (E : Env) (o : Oper) (b : Bool) : Bool := match wantL ops E o.guard with | some c => c == b | none => false
def findB (ops : Array Oper) (p : Oper → Bool) (ls : List Bool) : List Nat → Option Nat
  | [] => none
  | i :: r => match rdy ops ls i with
    | true => match ops.toList[i]? with
      | some o => match p o with | true => some i | false => findB ops p ls r
      | none => findB ops p ls r
    | false => findB ops p ls r
theorem findB_rdy {ops : Array Oper} {p : Oper → Bool} {ls : List Bool} {i : Nat} : ∀ {l : List Nat},findB ops p ls l = some i → i ∈ l ∧ rdy ops ls i = true ∧ ∃ o,ops.toList[i]? = some o ∧ p o = true := by
  intro l
  induction l with
  | nil => intro h;cases h
  | cons j r ih =>
    intro h
    have keep : findB ops p ls r = some i → i ∈ j :: r ∧ rdy ops ls i = true ∧ ∃ o,ops.toList[i]? = some o ∧ p o = true := fun h => ⟨List.mem_cons_of_mem _ (ih h).1,(ih h).2⟩
    simp only [findB] at h
    split at h
    · rename_i hr
      split at h
      · rename_i o ho
        split at h
        · rename_i hp
          cases h
          exact ⟨by simp,hr,o,ho,hp⟩
        · exact keep h
      · exact keep h
    · exact keep h
theorem findB_ready {ops : Array Oper} {p : Oper → Bool} {ls : List Bool} {i : Nat} (h : findB ops p ls (idxs ops.toList 0) = some i) : i ∈ Region.ready .any ops ls.toArray ∧ ∃ o,ops.toList[i]? = some o ∧ p o = true := by
  obtain ⟨h1,h2,h3⟩ := findB_rdy h
  rw [← idxs_range] at h1
  rw [rdy_eq]
  exact ⟨by simpa using ⟨by simpa using h1,h2⟩,h3⟩
def pureW (ops : Array Oper) (E : Env) (o : Oper) : Bool := match pureO o with | true => wantIs ops E o true | false => false
theorem pureW_ok {ops : Array Oper} {o : Oper} (h : pureW ops E o = true) (a : Act) (hr : Rep N E D a) : Region.wanted o (yielded ops a.tmps) = true := by
  unfold pureW wantIs at h
  split at h
  · split at h
    · rename_i c hc
      rw [wantL_ok hc a hr]
      simpa using h
    · cases h
  · cases h
theorem wantIs_ok {ops : Array Oper} {o : Oper} {b : Bool} (h : wantIs ops E o b = true) (a : Act) (hr : Rep N E D a) : Region.wanted o (yielded ops a.tmps) = b := by
  unfold wantIs at h
  split at h
  · rename_i c hc
    rw [wantL_ok hc a hr]
    simpa using h
  · cases h
def waitsB (ops : Array Oper) (m : Option Nat) (ls : List Bool) (i : Nat) : Bool := match m with
  | none => true
  | some k => match Nat.beq k i with
    | true => false
    | false => match ops.toList[k]? with
      | some om => match ls.getD k true with | true => false | false => depB om i
      | none => false
theorem waits_ne {ops : Array Oper} {m : Option Nat} {ls : List Bool} {i : Nat} (h : waitsB ops m ls i = true) : m ≠ some i := by
  rintro rfl
  simp [waitsB] at h
theorem waits_good {ops : Array Oper} {m : Option Nat} {ls : List Bool} {i : Nat} {T : World → Prop} (h : waitsB ops m ls i = true) : GoodW ops m i T T ls.toArray := by
  cases m with
  | none => exact .inr ⟨fun _ h => h,trivial⟩
  | some k =>
    simp only [waitsB] at h
    split at h
    · cases h
    · split at h
      · rename_i om hom
        split at h
        · cases h
        · rename_i hu
          unfold depB at h
          rw [List.any_eq_true] at h
          obtain ⟨e,he,hb⟩ := h
          simp only [Bool.and_eq_true] at hb
          exact .inr ⟨fun _ h => h,by rw [getD_toArray];exact hu,om,by rw [Array.getElem?_toList] at hom;exact hom,e,Array.mem_toList_iff.1 he,hb.1,Nat.eq_of_beq_eq_true hb.2⟩
      · cases h
theorem JW_base [hc : CalmQ Q] {ops : Array Oper} {fuel : Nat} {ls : List Bool} {i : Nat} {o : Oper} {v : Value} {U : HP → World → Prop} (hready : i ∈ Region.ready .any ops ls.toArray) (ho : ops.toList[i]? = some o) (hs : Region.noSelect ops = true) (hnd : noDefer ops = true) (hf : Region.free .any ops ls.toArray i = true)
    (hmi : m ≠ some i) (hgood : ∀ F,GoodW ops m i (fun w => Sat w (F :: L0)) (U F) ls.toArray) (hU : ∀ F w,Sat w (F :: L) → (need m ls.toArray = true → Ent L L0) → U F w) (hd : dok N o.dst = true) (hy : ∀ F a,Rep N E D a → YieldsIf P ops (U F) o v a)
    (h : JW P N rd ops m fuel (ls.set i true) (put E o.dst v) D L L0 Q) : JW P N rd ops m (fuel + 1) ls E D L L0 Q := by
  intro F a w hrep hsat hent
  rw [Array.getElem?_toList] at ho
  refine wpAnyW_first (U := U F) (v := v) ho (Region.noSelect_spec hs) (noDefer_spec hnd) hmi ?_ fuel ls.toArray a w (Region.free_spec ho hf) hready (hgood F) (hy F a hrep) (hU F w hsat hent) (fun hn => hent hn F w hsat) ?_
  · rintro c a' w' ⟨E',D',L',q,_⟩
    exact absurd q (hc.h c E' D' L')
  · have := h F (a.put o.dst v) w (hrep.put hd v) hsat (fun hn => hent (by rw [← List.setIfInBounds_toArray,need_one hmi] at hn;exact hn))
    rw [List.setIfInBounds_toArray]
    exact this
theorem needT {m : Option Nat} {ops : Array Oper} {ls : List Bool} {i : Nat} (h : waitsB ops m ls i = true) : need m ls.toArray = true := by
  cases m with
  | none => rfl
  | some k =>
    simp only [waitsB] at h
    simp only [need]
    split at h
    · cases h
    · split at h
      · split at h
        · cases h
        · rename_i hu
          rw [getD_toArray,hu]
          rfl
      · cases h
theorem JW_n [hc : CalmQ Q] {ops : Array Oper} {fuel : Nat} {ls : List Bool} {i : Nat} {o : Oper} {v : Value} (hn : findB ops (pureW ops E) ls (idxs ops.toList 0) = some i) (ho : ops.toList[i]? = some o) (hs : Region.noSelect ops = true) (hnd : noDefer ops = true) (hf : Region.free .any ops ls.toArray i = true)
    (hm : waitsB ops m ls i = true) (hd : dok N o.dst = true) (hq : JQ P N o E D L0 v) (h : JW P N rd ops m fuel (ls.set i true) (put E o.dst v) D L L0 Q) : JW P N rd ops m (fuel + 1) ls E D L L0 Q := by
  obtain ⟨h1,o',h2,h3⟩ := findB_ready hn
  obtain rfl := Option.some.inj (ho.symm.trans h2)
  exact JW_base (U := fun F w => Sat w (F :: L0)) h1 ho hs hnd hf (waits_ne hm) (fun _ => waits_good hm) (fun F w hsat he => he (needT hm) F w hsat) hd (fun F a hr => .inl ⟨pureW_ok h3 a hr,fun w hw => hq F a hr w hw⟩) h
theorem JW_p [hc : CalmQ Q] {ops : Array Oper} {fuel : Nat} {ls : List Bool} {i : Nat} {o : Oper} (hn : findB ops (fun o => wantIs ops E o false) ls (idxs ops.toList 0) = some i) (ho : ops.toList[i]? = some o) (hs : Region.noSelect ops = true) (hnd : noDefer ops = true) (hf : Region.free .any ops ls.toArray i = true)
    (hm : (match m with | none => false | some k => Nat.beq k i) = false) (hd : dok N o.dst = true) (h : JW P N rd ops m fuel (ls.set i true) (put E o.dst undef) D L L0 Q) : JW P N rd ops m (fuel + 1) ls E D L L0 Q := by
  obtain ⟨h1,o',h2,h3⟩ := findB_ready hn
  obtain rfl := Option.some.inj (ho.symm.trans h2)
  exact JW_base (U := fun _ _ => True) h1 ho hs hnd hf (by rintro rfl;simp at hm) (fun _ => .inl fun _ => trivial) (fun _ _ _ _ => trivial) hd (fun F a hr => .inr ⟨wantIs_ok h3 a hr,rfl⟩) h
theorem JW_fin {ops : Array Oper} {fuel : Nat} {ls : List Bool} (hr : orL (rdy ops ls) (idxs ops.toList 0) = false) (h : Q .normal E D L) : JW P N rd ops m fuel ls E D L L0 Q := by
  rw [orL_eq,← idxs_range] at hr
  intro F a w hrep hs _
  have h0 : Region.ready .any ops ls.toArray = [] := by
    rw [rdy_eq,List.filter_eq_nil_iff]
    intro i hi hr'
    rw [List.any_eq_false] at hr
    exact hr i hi hr'
  cases fuel with
  | zero => exact ⟨h0,E,D,L,h,hrep,hs⟩
  | succ fuel => exact ⟨fun _ => ⟨E,D,L,h,hrep,hs⟩,fun i hi => by rw [h0] at hi;cases hi⟩
variable (P N rd) in
def JW1 (ops : Array Oper) (m : Option Nat) (fuel : Nat) (ls : List Bool) (i : Nat) (E : Env) (D : List Deferred) (L L0 : List HP) (Q : uF) : Prop :=
  ∀ (F : HP) (a : Act) (w : World),Rep N E D a → Sat w (F :: L) → wpOpIn (FW rd) 0 P ops (lift N F Q) i (fun a' w' => (need m (ls.toArray.setIfInBounds i true) = true → Sat w' (F :: L0)) ∧ wpAnyW rd P ops (lift N F Q) m (fun w => Sat w (F :: L0)) fuel (ls.toArray.setIfInBounds i true) a' w') a w
def needL (m : Option Nat) (ls : List Bool) : Bool := match m with | none => true | some k => !(ls.getD k true)
theorem need_L (m : Option Nat) (ls : List Bool) : need m ls.toArray = needL m ls := by
  cases m with
  | none => rfl
  | some k => simp only [need,needL,getD_toArray]
theorem vV {ops : Array Oper} {fuel : Nat} {ls : List Bool} {i : Nat} {o : Oper} (ho : ops.toList[i]? = some o) (hw : wantIs ops E o true = true)
    (h : JO P N rd o E D L (fun E' D' L' => (needL m (ls.set i true) = true → Ent L' L0) ∧ JW P N rd ops m fuel (ls.set i true) E' D' L' L0 Q) Q) : JW1 P N rd ops m fuel ls i E D L L0 Q := by
  intro F a w hrep hsat
  rw [Array.getElem?_toList] at ho
  simp only [wpOpIn,ho,wantIs_ok hw a hrep,if_true]
  refine h F a w hrep hsat _ fun E' D' L' a' w' hn hr' hs' => ?_
  rw [List.setIfInBounds_toArray]
  exact ⟨fun hf => hn.1 (by rw [need_L] at hf;exact hf) F w' hs',hn.2 F a' w' hr' hs' (fun hf => hn.1 (by rw [need_L] at hf;exact hf))⟩
theorem JW_only {ops : Array Oper} {fuel : Nat} {ls : List Bool} {i : Nat} (hr : onlyR ops ls (idxs ops.toList 0) = some i) (h : JW1 P N rd ops m fuel ls i E D L L0 Q) : JW P N rd ops m (fuel + 1) ls E D L L0 Q := by
  intro F a w hrep hsat _
  have hr := onlyR_ready hr
  refine ⟨fun h0 => (by rw [hr] at h0;cases h0),fun k hk => ?_⟩
  rw [hr] at hk
  simp only [List.mem_singleton] at hk
  subst hk
  exact h F a w hrep hsat
theorem JW_two {ops : Array Oper} {fuel : Nat} {ls : List Bool} {i j : Nat} (hr : twoR ops ls (idxs ops.toList 0) = some (i,j)) (h1 : JW1 P N rd ops m fuel ls i E D L L0 Q) (h2 : JW1 P N rd ops m fuel ls j E D L L0 Q) : JW P N rd ops m (fuel + 1) ls E D L L0 Q := by
  intro F a w hrep hsat _
  have hr : Region.ready .any ops ls.toArray = [i,j] := by rw [rdy_eq,idxs_range];exact twoR_filter hr
  refine ⟨fun h0 => (by rw [hr] at h0;cases h0),fun k hk => ?_⟩
  rw [hr] at hk
  simp only [List.mem_cons,List.not_mem_nil,or_false] at hk
  rcases hk with rfl | rfl
  · exact h1 F a w hrep hsat
  · exact h2 F a w hrep hsat
instance calm_rnd {σ τ : Type} (A : HP) (U : σ → List HP) (jc : τ → Code) (V : τ → List HP) : CalmQ (rndQ A U jc V) := ⟨fun ch E D L q => q⟩
instance calm_seqI (fn : Func) {σ τ : Type} (n : Nat) (I : Nat → σ → HP) (Ix : τ → HP) : CalmQ (bodyQ P N fn fun e L => ∃ L',Ent L L' ∧ ((∃ v,e = .returned v) ∧ ((∃ s,L' = [I n s]) ∨ (∃ s,L' = [Ix s])))) := ⟨fun ch E D L q => by
  obtain ⟨_,L',_,⟨v,h1⟩,_⟩ := q
  cases h1⟩
end
end Go.Sp

/- Layer 9: what an op asks for. -/
namespace Go.Proofs.YtickblndgihoeaaGreatDoor
open Go Go.Sp
structure Row where
  whole : Bool
  b : Int
  c : Int
  d : Int
  l : Int
  least : Nat
  most : Nat
  unlike : Bool
def tK (r : Row) : List Value := [.bool r.whole,.int .i64 r.b,.int .i64 r.c,.int .i64 r.d,.int .i64 r.l,.int .i64 (r.least : Int),.int .i64 (r.most : Int),.bool r.unlike]
def zQ : Nat → Row × Bool
  | 1 => (⟨true,-1,-1,-1,-1,0,0,false⟩,false)
  | 9 => (⟨false,15,-1,-1,-1,0,0,false⟩,false)
  | 10 => (⟨false,15,-1,-1,-1,0,0,false⟩,false)
  | 11 => (⟨false,-1,-1,-1,127,1,1,false⟩,false)
  | 12 => (⟨false,-1,-1,-1,127,1,1,false⟩,false)
  | 14 => (⟨false,15,-1,-1,-1,0,0,false⟩,false)
  | 15 => (⟨false,15,-1,-1,-1,0,0,false⟩,false)
  | 16 => (⟨false,15,15,-1,-1,0,0,true⟩,false)
  | 17 => (⟨false,15,15,-1,-1,0,0,true⟩,false)
  | 18 => (⟨false,15,7,-1,-1,0,0,false⟩,false)
  | 19 => (⟨false,15,-1,-1,127,1,8,false⟩,false)
  | 20 => (⟨false,63,-1,1000,15,2,2,true⟩,false)
  | 21 => (⟨false,15,-1,-1,15,0,8,true⟩,false)
  | 22 => (⟨false,15,-1,-1,-1,0,0,false⟩,false)
  | 23 => (⟨false,15,15,-1,-1,0,0,true⟩,false)
  | _ => (⟨false,-1,-1,-1,-1,0,0,false⟩,true)
structure Ins where
  op : Int
  a : Int
  b : Int
  c : Int
  d : Int
  l : List Int
def insC (x : Ins) (v : Value) : List Value := [.int .i64 x.op,.int .i64 x.a,.int .i64 x.b,.int .i64 x.c,.int .i64 x.d,v]
attribute [local irreducible] callFunc Go.method J JL JO JR JR1 JRl Ct JG JM JM1 JW JW1 JQ JQ0 JS CtD xB
set_option maxRecDepth 4000 in
set_option maxHeartbeats 4000000 in
theorem rows_c (n : Nat) (hn : n ≤ 24) : Ct Tryz.prog 153 #[.int .i64 (n : Int)] [] (wF (.tuple #[.agg (tK (zQ n).1).toArray,.bool (zQ n).2]) []) := by
  refine yE (vs := [_]) Tryz.func153 rfl Tryz.ntmps153 (by simp) ?_
  match n,hn with
  | 0,_ =>
    repeat (first|(first|refine zB ?_|refine zE ?_|refine zG ?_|refine zK ?_|refine zP ?_|refine zJ rfl ?_|refine zV ?_)|(first|((first|refine zA rfl ?_);first|refine JOq (yL rfl rfl (by omega)) rfl ?_|refine yG (cs := tK (zQ 0).1) rfl rfl rfl ?_|refine zD rfl rfl ?_|refine zC rfl rfl ?_|refine zS rfl (fun r => ?_)|refine zO rfl rfl (by rfl) (by rfl) (by first | decide | simp [Value.oneCell']) rfl ?_)))
    exact ⟨rfl,_,res_ct rfl (yV (cs := tK (zQ 0).1) rfl rfl) rfl,_,Ent.nil,rfl,rfl⟩
  | 1,_ =>
    repeat (first|(first|refine zB ?_|refine zE ?_|refine zG ?_|refine zK ?_|refine zL rfl ?_|refine zV ?_)|(first|((first|refine zA rfl ?_);first|refine JOq (yT rfl rfl (by omega)) rfl ?_|refine yG (cs := tK (zQ 1).1) rfl rfl rfl ?_|refine zD rfl rfl ?_|refine zC rfl rfl ?_|refine zS rfl (fun r => ?_)|refine zO rfl rfl (by rfl) (by rfl) (by first | decide | simp [Value.oneCell']) rfl ?_)))
    exact ⟨rfl,_,res_ct rfl (yV (cs := tK (zQ 1).1) rfl rfl) rfl,_,Ent.nil,rfl,rfl⟩
  | 2,_ =>
    repeat (first|(first|refine zB ?_|refine zE ?_|refine zG ?_|refine zK ?_|refine zP ?_|refine zJ rfl ?_|refine zV ?_)|(first|((first|refine zA rfl ?_);first|refine JOq (yL rfl rfl (by omega)) rfl ?_|refine yG (cs := tK (zQ 2).1) rfl rfl rfl ?_|refine zD rfl rfl ?_|refine zC rfl rfl ?_|refine zS rfl (fun r => ?_)|refine zO rfl rfl (by rfl) (by rfl) (by first | decide | simp [Value.oneCell']) rfl ?_)))
    exact ⟨rfl,_,res_ct rfl (yV (cs := tK (zQ 2).1) rfl rfl) rfl,_,Ent.nil,rfl,rfl⟩
  | 3,_ =>
    repeat (first|(first|refine zB ?_|refine zE ?_|refine zG ?_|refine zK ?_|refine zP ?_|refine zJ rfl ?_|refine zV ?_)|(first|((first|refine zA rfl ?_);first|refine JOq (yL rfl rfl (by omega)) rfl ?_|refine yG (cs := tK (zQ 3).1) rfl rfl rfl ?_|refine zD rfl rfl ?_|refine zC rfl rfl ?_|refine zS rfl (fun r => ?_)|refine zO rfl rfl (by rfl) (by rfl) (by first | decide | simp [Value.oneCell']) rfl ?_)))
    exact ⟨rfl,_,res_ct rfl (yV (cs := tK (zQ 3).1) rfl rfl) rfl,_,Ent.nil,rfl,rfl⟩
  | 4,_ =>
    repeat (first|(first|refine zB ?_|refine zE ?_|refine zG ?_|refine zK ?_|refine zP ?_|refine zJ rfl ?_|refine zV ?_)|(first|((first|refine zA rfl ?_);first|refine JOq (yL rfl rfl (by omega)) rfl ?_|refine yG (cs := tK (zQ 4).1) rfl rfl rfl ?_|refine zD rfl rfl ?_|refine zC rfl rfl ?_|refine zS rfl (fun r => ?_)|refine zO rfl rfl (by rfl) (by rfl) (by first | decide | simp [Value.oneCell']) rfl ?_)))
    exact ⟨rfl,_,res_ct rfl (yV (cs := tK (zQ 4).1) rfl rfl) rfl,_,Ent.nil,rfl,rfl⟩
  | 5,_ =>
    repeat (first|(first|refine zB ?_|refine zE ?_|refine zG ?_|refine zK ?_|refine zP ?_|refine zJ rfl ?_|refine zV ?_)|(first|((first|refine zA rfl ?_);first|refine JOq (yL rfl rfl (by omega)) rfl ?_|refine yG (cs := tK (zQ 5).1) rfl rfl rfl ?_|refine zD rfl rfl ?_|refine zC rfl rfl ?_|refine zS rfl (fun r => ?_)|refine zO rfl rfl (by rfl) (by rfl) (by first | decide | simp [Value.oneCell']) rfl ?_)))
    exact ⟨rfl,_,res_ct rfl (yV (cs := tK (zQ 5).1) rfl rfl) rfl,_,Ent.nil,rfl,rfl⟩
  | 6,_ =>
    repeat (first|(first|refine zB ?_|refine zE ?_|refine zG ?_|refine zK ?_|refine zP ?_|refine zJ rfl ?_|refine zV ?_)|(first|((first|refine zA rfl ?_);first|refine JOq (yL rfl rfl (by omega)) rfl ?_|refine yG (cs := tK (zQ 6).1) rfl rfl rfl ?_|refine zD rfl rfl ?_|refine zC rfl rfl ?_|refine zS rfl (fun r => ?_)|refine zO rfl rfl (by rfl) (by rfl) (by first | decide | simp [Value.oneCell']) rfl ?_)))
    exact ⟨rfl,_,res_ct rfl (yV (cs := tK (zQ 6).1) rfl rfl) rfl,_,Ent.nil,rfl,rfl⟩
  | 7,_ =>
    repeat (first|(first|refine zB ?_|refine zE ?_|refine zG ?_|refine zK ?_|refine zP ?_|refine zJ rfl ?_|refine zV ?_)|(first|((first|refine zA rfl ?_);first|refine JOq (yL rfl rfl (by omega)) rfl ?_|refine yG (cs := tK (zQ 7).1) rfl rfl rfl ?_|refine zD rfl rfl ?_|refine zC rfl rfl ?_|refine zS rfl (fun r => ?_)|refine zO rfl rfl (by rfl) (by rfl) (by first | decide | simp [Value.oneCell']) rfl ?_)))
    exact ⟨rfl,_,res_ct rfl (yV (cs := tK (zQ 7).1) rfl rfl) rfl,_,Ent.nil,rfl,rfl⟩
  | 8,_ =>
    repeat (first|(first|refine zB ?_|refine zE ?_|refine zG ?_|refine zK ?_|refine zP ?_|refine zJ rfl ?_|refine zV ?_)|(first|((first|refine zA rfl ?_);first|refine JOq (yL rfl rfl (by omega)) rfl ?_|refine yG (cs := tK (zQ 8).1) rfl rfl rfl ?_|refine zD rfl rfl ?_|refine zC rfl rfl ?_|refine zS rfl (fun r => ?_)|refine zO rfl rfl (by rfl) (by rfl) (by first | decide | simp [Value.oneCell']) rfl ?_)))
    exact ⟨rfl,_,res_ct rfl (yV (cs := tK (zQ 8).1) rfl rfl) rfl,_,Ent.nil,rfl,rfl⟩
  | 9,_ =>
    repeat (first|(first|refine zB ?_|refine zE ?_|refine zG ?_|refine zK ?_|refine zP ?_|refine zL rfl ?_|refine zJ rfl ?_|refine zV ?_)|(first|((first|refine zA rfl ?_);first|refine JOq (yT rfl rfl (by omega)) rfl ?_|refine JOq (yL rfl rfl (by omega)) rfl ?_|refine yG (cs := tK (zQ 9).1) rfl rfl rfl ?_|refine zD rfl rfl ?_|refine zC rfl rfl ?_|refine zS rfl (fun r => ?_)|refine zO rfl rfl (by rfl) (by rfl) (by first | decide | simp [Value.oneCell']) rfl ?_)))
    exact ⟨rfl,_,res_ct rfl (yV (cs := tK (zQ 9).1) rfl rfl) rfl,_,Ent.nil,rfl,rfl⟩
  | 10,_ =>
    repeat (first|(first|refine zB ?_|refine zE ?_|refine zG ?_|refine zK ?_|refine zP ?_|refine zL rfl ?_|refine zJ rfl ?_|refine zV ?_)|(first|((first|refine zA rfl ?_);first|refine JOq (yT rfl rfl (by omega)) rfl ?_|refine JOq (yL rfl rfl (by omega)) rfl ?_|refine yG (cs := tK (zQ 10).1) rfl rfl rfl ?_|refine zD rfl rfl ?_|refine zC rfl rfl ?_|refine zS rfl (fun r => ?_)|refine zO rfl rfl (by rfl) (by rfl) (by first | decide | simp [Value.oneCell']) rfl ?_)))
    exact ⟨rfl,_,res_ct rfl (yV (cs := tK (zQ 10).1) rfl rfl) rfl,_,Ent.nil,rfl,rfl⟩
  | 11,_ =>
    repeat (first|(first|refine zB ?_|refine zE ?_|refine zG ?_|refine zK ?_|refine zP ?_|refine zL rfl ?_|refine zJ rfl ?_|refine zV ?_)|(first|((first|refine zA rfl ?_);first|refine JOq (yT rfl rfl (by omega)) rfl ?_|refine JOq (yL rfl rfl (by omega)) rfl ?_|refine yG (cs := tK (zQ 11).1) rfl rfl rfl ?_|refine zD rfl rfl ?_|refine zC rfl rfl ?_|refine zS rfl (fun r => ?_)|refine zO rfl rfl (by rfl) (by rfl) (by first | decide | simp [Value.oneCell']) rfl ?_)))
    exact ⟨rfl,_,res_ct rfl (yV (cs := tK (zQ 11).1) rfl rfl) rfl,_,Ent.nil,rfl,rfl⟩
  | 12,_ =>
    repeat (first|(first|refine zB ?_|refine zE ?_|refine zG ?_|refine zK ?_|refine zL rfl ?_|refine zJ rfl ?_|refine zV ?_)|(first|((first|refine zA rfl ?_);first|refine JOq (yT rfl rfl (by omega)) rfl ?_|refine JOq (yL rfl rfl (by omega)) rfl ?_|refine yG (cs := tK (zQ 12).1) rfl rfl rfl ?_|refine zD rfl rfl ?_|refine zC rfl rfl ?_|refine zS rfl (fun r => ?_)|refine zO rfl rfl (by rfl) (by rfl) (by first | decide | simp [Value.oneCell']) rfl ?_)))
    exact ⟨rfl,_,res_ct rfl (yV (cs := tK (zQ 12).1) rfl rfl) rfl,_,Ent.nil,rfl,rfl⟩
  | 13,_ =>
    repeat (first|(first|refine zB ?_|refine zE ?_|refine zG ?_|refine zK ?_|refine zP ?_|refine zJ rfl ?_|refine zV ?_)|(first|((first|refine zA rfl ?_);first|refine JOq (yL rfl rfl (by omega)) rfl ?_|refine yG (cs := tK (zQ 13).1) rfl rfl rfl ?_|refine zD rfl rfl ?_|refine zC rfl rfl ?_|refine zS rfl (fun r => ?_)|refine zO rfl rfl (by rfl) (by rfl) (by first | decide | simp [Value.oneCell']) rfl ?_)))
    exact ⟨rfl,_,res_ct rfl (yV (cs := tK (zQ 13).1) rfl rfl) rfl,_,Ent.nil,rfl,rfl⟩
  | 14,_ =>
    repeat (first|(first|refine zB ?_|refine zE ?_|refine zG ?_|refine zK ?_|refine zP ?_|refine zL rfl ?_|refine zJ rfl ?_|refine zV ?_)|(first|((first|refine zA rfl ?_);first|refine JOq (yT rfl rfl (by omega)) rfl ?_|refine JOq (yL rfl rfl (by omega)) rfl ?_|refine yG (cs := tK (zQ 14).1) rfl rfl rfl ?_|refine zD rfl rfl ?_|refine zC rfl rfl ?_|refine zS rfl (fun r => ?_)|refine zO rfl rfl (by rfl) (by rfl) (by first | decide | simp [Value.oneCell']) rfl ?_)))
    exact ⟨rfl,_,res_ct rfl (yV (cs := tK (zQ 14).1) rfl rfl) rfl,_,Ent.nil,rfl,rfl⟩
  | 15,_ =>
    repeat (first|(first|refine zB ?_|refine zE ?_|refine zG ?_|refine zK ?_|refine zP ?_|refine zL rfl ?_|refine zJ rfl ?_|refine zV ?_)|(first|((first|refine zA rfl ?_);first|refine JOq (yT rfl rfl (by omega)) rfl ?_|refine JOq (yL rfl rfl (by omega)) rfl ?_|refine yG (cs := tK (zQ 15).1) rfl rfl rfl ?_|refine zD rfl rfl ?_|refine zC rfl rfl ?_|refine zS rfl (fun r => ?_)|refine zO rfl rfl (by rfl) (by rfl) (by first | decide | simp [Value.oneCell']) rfl ?_)))
    exact ⟨rfl,_,res_ct rfl (yV (cs := tK (zQ 15).1) rfl rfl) rfl,_,Ent.nil,rfl,rfl⟩
  | 16,_ =>
    repeat (first|(first|refine zB ?_|refine zE ?_|refine zG ?_|refine zK ?_|refine zP ?_|refine zL rfl ?_|refine zJ rfl ?_|refine zV ?_)|(first|((first|refine zA rfl ?_);first|refine JOq (yT rfl rfl (by omega)) rfl ?_|refine JOq (yL rfl rfl (by omega)) rfl ?_|refine yG (cs := tK (zQ 16).1) rfl rfl rfl ?_|refine zD rfl rfl ?_|refine zC rfl rfl ?_|refine zS rfl (fun r => ?_)|refine zO rfl rfl (by rfl) (by rfl) (by first | decide | simp [Value.oneCell']) rfl ?_)))
    exact ⟨rfl,_,res_ct rfl (yV (cs := tK (zQ 16).1) rfl rfl) rfl,_,Ent.nil,rfl,rfl⟩
  | 17,_ =>
    repeat (first|(first|refine zB ?_|refine zE ?_|refine zG ?_|refine zK ?_|refine zP ?_|refine zL rfl ?_|refine zJ rfl ?_|refine zV ?_)|(first|((first|refine zA rfl ?_);first|refine JOq (yT rfl rfl (by omega)) rfl ?_|refine JOq (yL rfl rfl (by omega)) rfl ?_|refine yG (cs := tK (zQ 17).1) rfl rfl rfl ?_|refine zD rfl rfl ?_|refine zC rfl rfl ?_|refine zS rfl (fun r => ?_)|refine zO rfl rfl (by rfl) (by rfl) (by first | decide | simp [Value.oneCell']) rfl ?_)))
    exact ⟨rfl,_,res_ct rfl (yV (cs := tK (zQ 17).1) rfl rfl) rfl,_,Ent.nil,rfl,rfl⟩
  | 18,_ =>
    repeat (first|(first|refine zB ?_|refine zE ?_|refine zG ?_|refine zK ?_|refine zL rfl ?_|refine zJ rfl ?_|refine zV ?_)|(first|((first|refine zA rfl ?_);first|refine JOq (yT rfl rfl (by omega)) rfl ?_|refine JOq (yL rfl rfl (by omega)) rfl ?_|refine yG (cs := tK (zQ 18).1) rfl rfl rfl ?_|refine zD rfl rfl ?_|refine zC rfl rfl ?_|refine zS rfl (fun r => ?_)|refine zO rfl rfl (by rfl) (by rfl) (by first | decide | simp [Value.oneCell']) rfl ?_)))
    exact ⟨rfl,_,res_ct rfl (yV (cs := tK (zQ 18).1) rfl rfl) rfl,_,Ent.nil,rfl,rfl⟩
  | 19,_ =>
    repeat (first|(first|refine zB ?_|refine zE ?_|refine zG ?_|refine zK ?_|refine zL rfl ?_|refine zJ rfl ?_|refine zV ?_)|(first|((first|refine zA rfl ?_);first|refine JOq (yT rfl rfl (by omega)) rfl ?_|refine JOq (yL rfl rfl (by omega)) rfl ?_|refine yG (cs := tK (zQ 19).1) rfl rfl rfl ?_|refine zD rfl rfl ?_|refine zC rfl rfl ?_|refine zS rfl (fun r => ?_)|refine zO rfl rfl (by rfl) (by rfl) (by first | decide | simp [Value.oneCell']) rfl ?_)))
    exact ⟨rfl,_,res_ct rfl (yV (cs := tK (zQ 19).1) rfl rfl) rfl,_,Ent.nil,rfl,rfl⟩
  | 20,_ =>
    repeat (first|(first|refine zB ?_|refine zE ?_|refine zG ?_|refine zK ?_|refine zL rfl ?_|refine zJ rfl ?_|refine zV ?_)|(first|((first|refine zA rfl ?_);first|refine JOq (yT rfl rfl (by omega)) rfl ?_|refine JOq (yL rfl rfl (by omega)) rfl ?_|refine yG (cs := tK (zQ 20).1) rfl rfl rfl ?_|refine zD rfl rfl ?_|refine zC rfl rfl ?_|refine zS rfl (fun r => ?_)|refine zO rfl rfl (by rfl) (by rfl) (by first | decide | simp [Value.oneCell']) rfl ?_)))
    exact ⟨rfl,_,res_ct rfl (yV (cs := tK (zQ 20).1) rfl rfl) rfl,_,Ent.nil,rfl,rfl⟩
  | 21,_ =>
    repeat (first|(first|refine zB ?_|refine zE ?_|refine zG ?_|refine zK ?_|refine zL rfl ?_|refine zJ rfl ?_|refine zV ?_)|(first|((first|refine zA rfl ?_);first|refine JOq (yT rfl rfl (by omega)) rfl ?_|refine JOq (yL rfl rfl (by omega)) rfl ?_|refine yG (cs := tK (zQ 21).1) rfl rfl rfl ?_|refine zD rfl rfl ?_|refine zC rfl rfl ?_|refine zS rfl (fun r => ?_)|refine zO rfl rfl (by rfl) (by rfl) (by first | decide | simp [Value.oneCell']) rfl ?_)))
    exact ⟨rfl,_,res_ct rfl (yV (cs := tK (zQ 21).1) rfl rfl) rfl,_,Ent.nil,rfl,rfl⟩
  | 22,_ =>
    repeat (first|(first|refine zB ?_|refine zE ?_|refine zG ?_|refine zK ?_|refine zL rfl ?_|refine zJ rfl ?_|refine zV ?_)|(first|((first|refine zA rfl ?_);first|refine JOq (yT rfl rfl (by omega)) rfl ?_|refine JOq (yL rfl rfl (by omega)) rfl ?_|refine yG (cs := tK (zQ 22).1) rfl rfl rfl ?_|refine zD rfl rfl ?_|refine zC rfl rfl ?_|refine zS rfl (fun r => ?_)|refine zO rfl rfl (by rfl) (by rfl) (by first | decide | simp [Value.oneCell']) rfl ?_)))
    exact ⟨rfl,_,res_ct rfl (yV (cs := tK (zQ 22).1) rfl rfl) rfl,_,Ent.nil,rfl,rfl⟩
  | 23,_ =>
    repeat (first|(first|refine zB ?_|refine zE ?_|refine zG ?_|refine zK ?_|refine zL rfl ?_|refine zJ rfl ?_|refine zV ?_)|(first|((first|refine zA rfl ?_);first|refine JOq (yT rfl rfl (by omega)) rfl ?_|refine JOq (yL rfl rfl (by omega)) rfl ?_|refine yG (cs := tK (zQ 23).1) rfl rfl rfl ?_|refine zD rfl rfl ?_|refine zC rfl rfl ?_|refine zS rfl (fun r => ?_)|refine zO rfl rfl (by rfl) (by rfl) (by first | decide | simp [Value.oneCell']) rfl ?_)))
    exact ⟨rfl,_,res_ct rfl (yV (cs := tK (zQ 23).1) rfl rfl) rfl,_,Ent.nil,rfl,rfl⟩
  | 24,_ =>
    repeat (first|(first|refine zB ?_|refine zE ?_|refine zG ?_|refine zK ?_|refine zP ?_|refine zJ rfl ?_|refine zV ?_)|(first|((first|refine zA rfl ?_);first|refine JOq (yL rfl rfl (by omega)) rfl ?_|refine yG (cs := tK (zQ 24).1) rfl rfl rfl ?_|refine zD rfl rfl ?_|refine zC rfl rfl ?_|refine zS rfl (fun r => ?_)|refine zO rfl rfl (by rfl) (by rfl) (by first | decide | simp [Value.oneCell']) rfl ?_)))
    exact ⟨rfl,_,res_ct rfl (yV (cs := tK (zQ 24).1) rfl rfl) rfl,_,Ent.nil,rfl,rfl⟩
  | k + 25,h => omega
theorem counts_c (r : Row) : Ct Tryz.prog 156 #[.agg (tK r).toArray] [] (wF (.bool (decide ((r.least : Int) < (r.most : Int)))) []) := by
  refine yE (vs := [_]) Tryz.func156 rfl Tryz.ntmps156 (by simp) ?_
  unfold tK
  repeat (first|(first|refine zB ?_|refine zE ?_|refine zG ?_|refine zV ?_)|(first|((first|refine zA rfl ?_);first|refine zC rfl rfl ?_|refine zF rfl rfl ?_|refine zH rfl rfl ?_|refine JO_lss rfl rfl rfl ?_|refine yN rfl rfl (fun r => ?_))))
  exact zY rfl rfl .nil
abbrev fcl (f : FuncId) (cs : List Value) : Value := .func (.func f) #[] cs.toArray
abbrev RowP (q : Nat) (r : Row) : HP := pt q (.cells (tK r).toArray 252 (0,0))
theorem small_c (r : Row) (p : Nat) : Ct Tryz.prog 155 #[.agg (tK r).toArray,ptr p] [] (RetE (fun _ : Nat × Nat => True) (fun x => fcl 175 [ptr x.1,ptr x.2]) (fun x => [pt x.1 (.cells #[ptr p] 259 (0,0)),RowP x.2 r])) := by
  refine yE (vs := [_,_]) Tryz.func155 rfl Tryz.ntmps155 (by simp) ?_
  repeat (first|(first|refine zB ?_|refine zE ?_|refine zG ?_|refine zV ?_)|(first|((first|refine zA rfl ?_);first|refine zC rfl rfl ?_|refine yN rfl rfl (fun r => ?_)|refine JO_box1 rfl rfl rfl (fun r => ?_)|refine wP rfl rfl rfl ?_)))
  rename_i q
  exact ret_one rfl rfl (r,q) trivial rfl Ent.sel
abbrev pf (n k : Nat) : Value := .pointer (some ⟨n,k,none⟩)
def smallV (n : Nat) (r : Row) : List (List Value) := [[pf n 2,.int .i64 r.b],[pf n 3,.int .i64 r.c],[pf n 4,.int .i64 r.d]]
set_option maxHeartbeats 4000000 in
theorem small1_c (c1 c2 n : Nat) (r : Row) : SeqC Tryz.prog 175 [] [ptr c1,ptr c2] [pt c1 (.cells #[ptr n] 259 (0,0)),RowP c2 r] (smallV n r) := by
  intro l σ τ I Ix hY s0
  refine yE (vs := [_,_,_]) Tryz.func175 rfl Tryz.ntmps175 (by simp) ?_
  unfold RowP tK
  refine tG none [pt c1 (.cells #[ptr n] 259 (0,0)),pt c2 (.cells #[.bool r.whole,.int .i64 r.b,.int .i64 r.c,.int .i64 r.d,.int .i64 r.l,.int .i64 (r.least : Int),.int .i64 (r.most : Int),.bool r.unlike] 252 (0,0))] Ent.sel ?_
  repeat' (first|refine JW_fin rfl ?_|refine JW_n rfl rfl (by kernel_rfl) (by kernel_rfl) (by kernel_rfl) (by kernel_rfl) rfl (by first|exact yQ rfl|exact xE rfl|exact xL rfl|exact xP rfl|exact JQ_pickT rfl rfl|exact JQ_pickF rfl rfl) ?_|refine JW_p rfl rfl (by kernel_rfl) (by kernel_rfl) (by kernel_rfl) (by kernel_rfl) rfl ?_|refine JW_only rfl ?_|refine vV rfl rfl (JO_yieldI (hY 0 _ s0 rfl) rfl rfl rfl (fun s1 => ⟨by first|exact (fun _ => Ent.sel),?_⟩) (fun z1 => ⟨by first|exact (fun _ => Ent.sel),?_⟩))|refine vV rfl rfl (JO_yieldI (hY 1 _ s1 rfl) rfl rfl rfl (fun s2 => ⟨by first|exact (fun _ => Ent.sel),?_⟩) (fun z1 => ⟨by first|exact (fun _ => Ent.sel),?_⟩))|refine vV rfl rfl (JO_yieldI (hY 2 _ s2 rfl) rfl rfl rfl (fun s3 => ⟨by first|exact (fun _ => Ent.sel),?_⟩) (fun z1 => ⟨by first|exact (fun _ => Ent.sel),?_⟩)))
  · exact seq_end (A := I 3 s3) rfl _ (.inr rfl) .sel (.inl ⟨s3,rfl⟩)
  · exact seq_end rfl _ (.inr rfl) .sel (.inr ⟨z1,rfl⟩)
  · exact seq_end rfl _ (.inr rfl) .sel (.inr ⟨z1,rfl⟩)
  · exact seq_end rfl _ (.inr rfl) .sel (.inr ⟨z1,rfl⟩)
end Go.Proofs.YtickblndgihoeaaGreatDoor

/- Facts among what is held;stages;Bools of whatever is said. -/
namespace Go.Sp
open Go.RowKit
noncomputable abbrev bP (p : Prop) : Bool := @decide p (Classical.propDecidable p)
theorem bP_t {p : Prop} (h : p) : true = bP p := by simp [bP,h]
theorem bP_f {p : Prop} (h : ¬ p) : false = bP p := by simp [bP,h]
theorem bP_same {p q : Prop} (h : p ↔ q) : bP p = bP q := by simp [bP,h]
def stage (n : Nat) (a b c d : List HP) : List HP := if n = 0 then a else if n = 1 then b else if n = 2 then c else d
theorem stage_0 (a b c d : List HP) : stage 0 a b c d = a := rfl
theorem stage_1 (a b c d : List HP) : stage 1 a b c d = b := rfl
theorem stage_2 (a b c d : List HP) : stage 2 a b c d = c := rfl
theorem stage_3 (a b c d : List HP) : stage 3 a b c d = d := rfl
def Fact (p : Prop) : HP := fun _ => p
theorem wD {p : Prop} {L : List HP} (h : p) : Ent L (Fact p :: L) := fun _ _ hs => (hs.add h).swap
theorem fact_out {p : Prop} : ∀ k,Fact p k → p := fun _ h => h
theorem endM_1V {L0 : List HP} {P : Program} {N : Nat} {E : Env} {L : List HP} {r : Nat} {M : List HP} [h : Tk (pt r (.deferred (some []))) L M] {fn : Func} {a t : Nat} [T1 P t] {b : Nat} {v : Value} {cs : List Value} {bt : TypeId} {fz : Nat × Nat} (hr : fn.results = #[.cell a t]) (hv : Env.get E a = some (.pointer (some ⟨b,0,none⟩))) [hb : HB M b (.cells cs.toArray bt fz)] (hg : cs[0]? = some v) (he : Ent M L0) :
    bodyQM P N fn (wF v L0) .ret E [collected r] L := ⟨r,M,rfl,h.h,_,res_cell1 hr hv hg,_,he,rfl,rfl⟩
end Go.Sp
