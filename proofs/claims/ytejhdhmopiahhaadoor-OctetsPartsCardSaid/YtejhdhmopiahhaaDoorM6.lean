/- Layer 1: calls that hand back a fault; 'told', which leaves the laid variable as it was. -/
import Derived.Test.YtejhdhmopiahhaaDoorM1
import Derived.Test.YtejhdhmopiahhaaDoorM5
import Derived.Deep.Slices
import Derived.ProofKit
import Derived.SizedLaws
import Derived.Test.YtejhdhmopiahhaaDoorCards
import Derived.Test.YtejhdhmopiahhaaDoorTie
import Derived.OpenShut
import Derived.ChangeSame
import Derived.ChangeVars
import Derived.JoinedOf
import Derived.RowKit
import Derived.RowKitTokens
import Derived.LaidLaws
import Derived.LaidHandle
import Derived.Stop.Joined
import Derived.SevenTiedAt
import Derived.Handed
import Derived.ChangeMaps5
namespace Go.Proofs.YtejhdhmopiahhaaDoor
open Go Go.Sp
section
variable {N : Nat} {rd : Option Nat} {E : Env} {D : List Deferred} {L : List HP} {Q : Post} {next : Env → List Deferred → List HP → Prop}
variable {d : Option Nat} {ty : TypeId} {pos : String} {after : Array Edge} {g : Option (Nat × Bool)}
theorem JO_callFV {x : Value} {code at_ : Int} {L0 K M L1 : List HP} {f : FuncId} [hf : CF Tryd.prog f] {args : Array Operand} {ts : Array TypeId} {vs : List Value} (hx : evs E args.toList = some vs)
    (hc : Ct Tryd.prog f vs.toArray K (FailsV x code at_ L0)) [hs : Sel K L M] [ha : AppH L0 M L1] (hd : dok N d = true) (h : ∀ q, next (put E d (.tuple #[x, faultI q])) D (Ft q code at_ :: L1)) : JO Tryd.prog N rd ⟨d, .call ⟨.value (.func f), args, ts⟩, ty, pos, after, g⟩ E D L next Q :=
  JO_call hx hc.use hd (fun _ _ ⟨_, ⟨q, he, hL⟩, hL'⟩ => by cases he; rw [hL', hL, List.cons_append, ha.h]; exact h q) (fun _ _ ⟨_, ⟨_, he, _⟩, _⟩ => by cases he)
theorem JO_callFE {code at_ : Int} {L0 K M L1 : List HP} {f : FuncId} [hf : CF Tryd.prog f] {args : Array Operand} {ts : Array TypeId} {vs : List Value} (hx : evs E args.toList = some vs)
    (hc : Ct Tryd.prog f vs.toArray K (FailsE code at_ L0)) [hs : Sel K L M] [ha : AppH L0 M L1] (hd : dok N d = true) (h : ∀ q, next (put E d (faultI q)) D (Ft q code at_ :: L1)) : JO Tryd.prog N rd ⟨d, .call ⟨.value (.func f), args, ts⟩, ty, pos, after, g⟩ E D L next Q :=
  JO_call hx hc.use hd (fun _ _ ⟨_, ⟨q, he, hL⟩, hL'⟩ => by cases he; rw [hL', hL, List.cons_append, ha.h]; exact h q) (fun _ _ ⟨_, ⟨_, he, _⟩, _⟩ => by cases he)
end
/-- The laid variable errors.errorType. -/
def Gl (te : TypeId) (fz : Nat × Nat) : HP := ro 0 (.cells [types 31].toArray te fz)
theorem pers_gl (te : TypeId) (fz : Nat × Nat) : Pers (Gl te fz) := pers_ro _ _
instance (te : TypeId) (fz : Nat × Nat) : PersA (Gl te fz) := ⟨pers_gl te fz⟩
theorem told_faultK (q : Nat) (code at_ : Int) (hc : code ≠ 0) (te : TypeId) (fz : Nat × Nat) : Ct Tryd.prog 16 #[faultI q, faultV code at_] [Ft q code at_, Gl te fz] (RetV (.bool true) [Gl te fz]) :=
  Ct.post (Ct.heap ((Ent.dup (Gl te fz)).trans (Ent.sel (K := [Ft q code at_, Gl te fz, Gl te fz]))) ((told_fault q code at_ hc te fz).frame [Gl te fz])) fun _ _ ⟨_, ⟨he, hL⟩, hL'⟩ => ⟨_, Ent.refl _, he, by rw [hL', hL]; rfl⟩
end Go.Proofs.YtejhdhmopiahhaaDoor

/- Layer 1: an error by its fault; the reader's and the document's answers, each by one contract. -/
namespace Go.Proofs.YtejhdhmopiahhaaDoor
open Go Go.Sp
/-- What tells a fault, or none. -/
def Er (v : Value) (c a : Int) : HP := fun h => (c = 0 ∧ a = 0 ∧ v = .nilIface) ∨ (c ≠ 0 ∧ ∃ q : Nat, v = faultI q ∧ Ft q c a h)
theorem ct_er {f : FuncId} {args : Array Value} {v : Value} {c a : Int} {M : List HP} {R : Ending → List HP → Prop} (h0 : c = 0 → a = 0 → v = .nilIface → Ct Tryd.prog f args M R) (h1 : ∀ q, c ≠ 0 → v = faultI q → Ct Tryd.prog f args (Ft q c a :: M) R) : Ct Tryd.prog f args (Er v c a :: M) R := fun F w hs => by
  obtain ⟨k, ⟨a1, b1, c1, d1, e1, f1, g1⟩, m⟩ := hs.swap
  rcases f1 with ⟨h2, h3, h4⟩ | ⟨h2, q, h3, h4⟩
  · exact h0 h2 h3 h4 F w ⟨k, g1.le e1, m⟩
  · exact h1 q h2 h3 F w (Sat.swap ⟨k, ⟨a1, b1, c1, d1, e1, h4, g1⟩, m⟩)
theorem er_none {L : List HP} : Ent L (Er .nilIface 0 0 :: L) := fun _ _ hs => (hs.add (.inl ⟨rfl, rfl, rfl⟩)).swap
theorem er_some {q : Nat} {c a : Int} {L : List HP} (hc : c ≠ 0) : Ent (Ft q c a :: L) (Er (faultI q) c a :: L) := fun _ _ hs => (hs.swap.conv fun _ hk => .inr ⟨hc, q, rfl, hk⟩).swap
theorem told_E (v : Value) (c a : Int) (te : TypeId) (fz : Nat × Nat) : Ct Tryd.prog 16 #[v, faultV c a] [Er v c a, Gl te fz] (RetV (.bool true) [Gl te fz]) :=
  ct_er (fun h1 h2 h3 => by
    subst h1; subst h2; subst h3
    exact Ct.post (told_none.frame [Gl te fz]) fun _ _ ⟨_, ⟨he, hL⟩, hL'⟩ => ⟨_, Ent.refl _, he, by rw [hL', hL]; rfl⟩) (fun q h1 h2 => by subst h2; exact told_faultK q c a h1 te fz)
theorem ent_perm2 {A B : HP} {L : List HP} : Ent (A :: B :: L) (B :: A :: L) := fun F _ hs => hs.perm ((List.Perm.swap _ _ _).cons F)
/-- The answers. -/
def byteA (bs : List UInt8) (pl : Int) : UInt8 × Int × Int := match bs with | [] => (0, 3, pl) | x :: _ => (x, 0, 0)
def byteR (bs : List UInt8) (pl : Int) : List UInt8 × Int := match bs with | [] => ([], pl) | _ :: r => (r, pl + 1)
def takeA (bs : List UInt8) (pl n : Int) : List UInt8 × Int × Int := if n < 0 then ([], 2, pl) else if (bs.length : Int) < n then ([], 3, pl) else (bs.take n.toNat, 0, 0)
def takeR (bs : List UInt8) (pl n : Int) : List UInt8 × Int := if n < 0 then (bs, pl) else if (bs.length : Int) < n then (bs, pl) else (bs.drop n.toNat, pl + n)
def endA (bs : List UInt8) (pl : Int) : Int × Int := if bs.length = 0 then (0, 0) else (4, pl)
theorem byte_E (b : Nat) (bs : List UInt8) (pl : Int) (hpl : 0 ≤ pl ∧ pl + 1 ≤ 9223372036854775807) :
    Ct Tryd.prog 14 #[ptr b] [RdB b bs pl] (RetE (fun _ : Value => True) (fun v => .tuple #[.int .u8 (((byteA bs pl).1.toNat : Nat) : Int), v]) (fun v => [Er v (byteA bs pl).2.1 (byteA bs pl).2.2, RdB b (byteR bs pl).1 (byteR bs pl).2])) := by
  cases bs with
  | nil => exact Ct.post (byte_shortB b pl) fun _ _ ⟨q, he, hL⟩ => ⟨_, by rw [hL]; exact er_some (by decide), faultI q, trivial, he, rfl⟩
  | cons x r => exact Ct.post (byte_B b x r pl hpl) fun _ _ ⟨he, hL⟩ => ⟨_, by rw [hL]; exact er_none, .nilIface, trivial, he, rfl⟩
theorem take_E (b : Nat) (bs : List UInt8) (pl n : Int) (hpl : 0 ≤ pl ∧ pl + bs.length ≤ 9223372036854775807) :
    Ct Tryd.prog 17 #[ptr b, .int .i64 n] [RdB b bs pl] (RetE (fun _ : Value => True) (fun v => .tuple #[str (takeA bs pl n).1, v]) (fun v => [Er v (takeA bs pl n).2.1 (takeA bs pl n).2.2, RdB b (takeR bs pl n).1 (takeR bs pl n).2])) := by
  unfold takeA takeR
  by_cases h1 : n < 0
  · simp only [h1, if_true]
    exact Ct.post (take_negB b bs pl n h1) fun _ _ ⟨q, he, hL⟩ => ⟨_, by rw [hL]; exact er_some (by decide), faultI q, trivial, he, rfl⟩
  · by_cases h2 : (bs.length : Int) < n
    · simp only [h1, h2, if_true, if_false]
      exact Ct.post (take_shortB b bs pl n h2) fun _ _ ⟨q, he, hL⟩ => ⟨_, by rw [hL]; exact er_some (by decide), faultI q, trivial, he, rfl⟩
    · simp only [h1, h2, if_false]
      obtain ⟨m, rfl⟩ : ∃ m : Nat, n = (m : Int) := ⟨n.toNat, by omega⟩
      rw [Int.toNat_natCast]
      exact Ct.post (take_B b bs pl m (by omega) (by omega)) fun _ _ ⟨he, hL⟩ => ⟨_, by rw [hL]; exact er_none, .nilIface, trivial, he, rfl⟩
theorem end_E (b : Nat) (bs : List UInt8) (pl : Int) : Ct Tryd.prog 25 #[ptr b] [RdB b bs pl] (RetE (fun _ : Value => True) (fun v => v) (fun v => [Er v (endA bs pl).1 (endA bs pl).2, RdB b bs pl])) := by
  cases bs with
  | nil => exact Ct.post (end_okB b pl) fun _ _ ⟨he, hL⟩ => ⟨_, by rw [hL]; exact er_none, .nilIface, trivial, he, rfl⟩
  | cons x r => exact Ct.post (end_longB b (x :: r) pl (by simp)) fun _ _ ⟨q, he, hL⟩ => ⟨_, by rw [hL]; exact er_some (show (4 : Int) ≠ 0 by decide), faultI q, trivial, he, rfl⟩
theorem part_bad (b : Nat) (bs : List UInt8) (pl n : Int) (h : (takeA bs pl n).2.1 ≠ 0) : Ct Tryd.prog 19 #[ptr b, .int .i64 n] [RdB b bs pl] (RetE (fun _ : Value => True) (fun v => .tuple #[.pointer none, v]) (fun v => [Er v (takeA bs pl n).2.1 (takeA bs pl n).2.2, RdB b bs pl])) := by
  unfold takeA at h ⊢
  by_cases h1 : n < 0
  · simp only [h1, if_true]
    exact Ct.post (part_negB b bs pl n h1) fun _ _ ⟨q, he, hL⟩ => ⟨_, by rw [hL]; exact er_some (by decide), faultI q, trivial, he, rfl⟩
  · by_cases h2 : (bs.length : Int) < n
    · simp only [h1, h2, if_true, if_false]
      exact Ct.post (part_shortB b bs pl n h2) fun _ _ ⟨q, he, hL⟩ => ⟨_, by rw [hL]; exact er_some (by decide), faultI q, trivial, he, rfl⟩
    · simp [h1, h2] at h
/-- The document's reader by its bytes. -/
def DrB (d : Nat) (bs : List UInt8) (pl : Int) : HP := fun h => ∃ x : List UInt8 × Nat × Int, (x.2.1 ≤ x.1.length ∧ bs = x.1.drop x.2.1 ∧ pl = x.2.2 + x.2.1 ∧ 0 ≤ x.2.2 ∧ x.2.2 + x.1.length ≤ 1000000) ∧ Dr d x.1 x.2.1 x.2.2 h
theorem ct_drb {f : FuncId} {args : Array Value} {d : Nat} {bs : List UInt8} {pl : Int} {R : Ending → List HP → Prop}
    (h : ∀ (s : List UInt8) (k : Nat) (bg : Int), k ≤ s.length → bs = s.drop k → pl = bg + k → 0 ≤ bg → bg + s.length ≤ 1000000 → Ct Tryd.prog f args [Dr d s k bg] R) : Ct Tryd.prog f args [DrB d bs pl] R := fun F w hs => by
  obtain ⟨k, ⟨a1, b1, c1, d1, e1, ⟨⟨s, i, bg⟩, ⟨h1, h2, h3, h4, h5⟩, h6⟩, g1⟩, m⟩ := hs.swap
  exact h s i bg h1 h2 h3 h4 h5 F w (Sat.swap ⟨k, ⟨a1, b1, c1, d1, e1, h6, g1⟩, m⟩)
theorem drb_close {d : Nat} {bs : List UInt8} {pl : Int} {L : List HP} {s : List UInt8} {k : Nat} {bg at_ : Int} (h0 : at_ = k) (h1 : k ≤ s.length) (h2 : bs = s.drop k) (h3 : pl = bg + k) (h4 : 0 ≤ bg) (h5 : bg + s.length ≤ 1000000) : Ent (Dr d s at_ bg :: L) (DrB d bs pl :: L) := fun _ _ hs => by
  subst h0
  exact (hs.swap.conv fun _ hk => ⟨(s, k, bg), ⟨h1, h2, h3, h4, h5⟩, hk⟩).swap
theorem dplace_B (d : Nat) (bs : List UInt8) (pl : Int) : Ct Tryd.prog 22 #[ptr d] [DrB d bs pl] (RetV (.int .i64 pl) [DrB d bs pl]) :=
  ct_drb fun s k bg h1 h2 h3 h4 h5 => by
    subst h3
    exact Ct.post (dplace_c d s k bg (by omega)) fun _ _ ⟨he, hL⟩ => ⟨_, by rw [hL]; exact drb_close rfl h1 h2 rfl h4 h5, he, rfl⟩
theorem dleft_B (d : Nat) (bs : List UInt8) (pl : Int) : Ct Tryd.prog 24 #[ptr d] [DrB d bs pl] (RetV (.int .i64 (bs.length : Int)) [DrB d bs pl]) :=
  ct_drb fun s k bg h1 h2 h3 h4 h5 => by
    have e : (bs.length : Int) = (s.length : Int) - k := by rw [h2, List.length_drop]; omega
    rw [e]
    exact Ct.post (dleft_c d s k bg (by omega)) fun _ _ ⟨he, hL⟩ => ⟨_, by rw [hL]; exact drb_close rfl h1 h2 h3 h4 h5, he, rfl⟩
theorem dend_B (d : Nat) (bs : List UInt8) (pl : Int) : Ct Tryd.prog 26 #[ptr d] [DrB d bs pl] (RetV (faultV (endA bs pl).1 (endA bs pl).2) [DrB d bs pl]) :=
  ct_drb fun s k bg h1 h2 h3 h4 h5 => by
    have e : (bs.length : Int) = (s.length : Int) - k := by rw [h2, List.length_drop]; omega
    unfold endA
    by_cases h0 : bs.length = 0
    · simp only [h0, if_true]
      exact Ct.post (dend_ok d s k bg (by omega) (by omega)) fun _ _ ⟨he, hL⟩ => ⟨_, by rw [hL]; exact drb_close rfl h1 h2 h3 h4 h5, he, rfl⟩
    · simp only [h0, if_false]
      subst h3
      exact Ct.post (dend_long d s k bg (by omega) (by omega) (by omega)) fun _ _ ⟨he, hL⟩ => ⟨_, by rw [hL]; exact drb_close rfl h1 h2 rfl h4 h5, he, rfl⟩
theorem dbyte_B (d : Nat) (bs : List UInt8) (pl : Int) : Ct Tryd.prog 15 #[ptr d] [DrB d bs pl] (RetV (.tuple #[.int .u8 (((byteA bs pl).1.toNat : Nat) : Int), faultV (byteA bs pl).2.1 (byteA bs pl).2.2]) [DrB d (byteR bs pl).1 (byteR bs pl).2]) :=
  ct_drb fun s k bg h1 h2 h3 h4 h5 => by
    have e : (bs.length : Int) = (s.length : Int) - k := by rw [h2, List.length_drop]; omega
    subst h3
    cases bs with
    | nil =>
      simp only [List.length_nil] at e
      exact Ct.post (dbyte_short d s k bg (by omega) (by omega) (by omega)) fun _ _ ⟨he, hL⟩ => ⟨_, by rw [hL]; exact drb_close rfl h1 h2 rfl h4 h5, he, rfl⟩
    | cons x r =>
      simp only [List.length_cons] at e
      have h6 : s[k]? = some x := by
        have := congrArg (·[0]?) h2
        simpa using this.symm
      have h7 : r = s.drop (k + 1) := by
        have := congrArg List.tail h2
        simpa [List.tail_drop] using this
      exact Ct.post (dbyte_ok d s k bg x (by omega) h6) fun _ _ ⟨he, hL⟩ => ⟨_, by rw [hL]; exact drb_close rfl (by omega) h7 (by show bg + (k : Int) + 1 = bg + ((k + 1 : Nat) : Int); omega) h4 h5, he, rfl⟩
theorem dtake_B (d : Nat) (bs : List UInt8) (pl n : Int) : Ct Tryd.prog 18 #[ptr d, .int .i64 n] [DrB d bs pl] (RetV (.tuple #[str (takeA bs pl n).1, faultV (takeA bs pl n).2.1 (takeA bs pl n).2.2]) [DrB d (takeR bs pl n).1 (takeR bs pl n).2]) :=
  ct_drb fun s k bg h1 h2 h3 h4 h5 => by
    have e : (bs.length : Int) = (s.length : Int) - k := by rw [h2, List.length_drop]; omega
    subst h3
    unfold takeA takeR
    by_cases hn : n < 0
    · simp only [hn, if_true]
      exact Ct.post (dtake_neg d s k bg n (by omega) hn) fun _ _ ⟨he, hL⟩ => ⟨_, by rw [hL]; exact drb_close rfl h1 h2 rfl h4 h5, he, rfl⟩
    · by_cases hm : (bs.length : Int) < n
      · simp only [hn, hm, if_true, if_false]
        exact Ct.post (dtake_short d s k bg n (by omega) (by omega) (by omega) (by omega)) fun _ _ ⟨he, hL⟩ => ⟨_, by rw [hL]; exact drb_close rfl h1 h2 rfl h4 h5, he, rfl⟩
      · simp only [hn, hm, if_false]
        obtain ⟨m, rfl⟩ : ∃ m : Nat, n = (m : Int) := ⟨n.toNat, by omega⟩
        rw [Int.toNat_natCast]
        have e2 : bs.take m = (s.take (k + m)).drop k := by rw [h2, List.drop_take]; congr 1; omega
        rw [e2]
        exact Ct.post (dtake_ok d s k bg m h1 (by omega) (by omega)) fun _ _ ⟨he, hL⟩ => ⟨_, by rw [hL]; exact drb_close (k := k + m) rfl (by omega) (by rw [h2, List.drop_drop]) (by omega) h4 h5, he, rfl⟩
theorem dpart_bad (d : Nat) (bs : List UInt8) (pl n : Int) (h : (takeA bs pl n).2.1 ≠ 0) : Ct Tryd.prog 20 #[ptr d, .int .i64 n] [DrB d bs pl] (RetV (.tuple #[.pointer none, faultV (takeA bs pl n).2.1 (takeA bs pl n).2.2]) [DrB d bs pl]) :=
  ct_drb fun s k bg h1 h2 h3 h4 h5 => by
    have e : (bs.length : Int) = (s.length : Int) - k := by rw [h2, List.length_drop]; omega
    subst h3
    unfold takeA at h ⊢
    by_cases hn : n < 0
    · simp only [hn, if_true]
      exact Ct.post (dpart_fails d s k bg n 2 (by omega) (by decide) (dtake_neg d s k bg n (by omega) hn)) fun _ _ ⟨he, hL⟩ => ⟨_, by rw [hL]; exact drb_close rfl h1 h2 rfl h4 h5, he, rfl⟩
    · by_cases hm : (bs.length : Int) < n
      · simp only [hn, hm, if_true, if_false]
        exact Ct.post (dpart_fails d s k bg n 3 (by omega) (by decide) (dtake_short d s k bg n (by omega) (by omega) (by omega) (by omega))) fun _ _ ⟨he, hL⟩ => ⟨_, by rw [hL]; exact drb_close rfl h1 h2 rfl h4 h5, he, rfl⟩
      · simp [hn, hm] at h
theorem dpart_B (d : Nat) (bs : List UInt8) (pl : Int) (n : Nat) (hn : n ≤ bs.length) : Ct Tryd.prog 20 #[ptr d, .int .i64 (n : Int)] [DrB d bs pl] (RetE (fun _ : Nat => True) (fun q => .tuple #[ptr q, faultV 0 0]) (fun q => [DrB d (bs.drop n) (pl + n), DrB q (bs.take n) pl])) :=
  ct_drb fun s k bg h1 h2 h3 h4 h5 => by
    have e : bs.length = s.length - k := by rw [h2, List.length_drop]
    subst h3
    have e2 : bs.take n = (s.take (k + n)).drop k := by rw [h2, List.drop_take]; congr 1; omega
    have e3 : ((s.take (k + n)).drop k).length = n := by rw [List.length_drop, List.length_take]; omega
    rw [e2]
    exact Ct.post (dpart_ok d s k bg n h1 (by omega) (by omega) (by omega)) fun _ _ ⟨q, _, he, hL⟩ => ⟨_, by
      rw [hL]
      refine (drb_close (k := k + n) rfl (by omega) (by rw [h2, List.drop_drop]) (by omega) h4 h5).trans (ent_perm2.trans ((drb_close (k := 0) rfl (by omega) (by rw [List.drop_zero]) (by omega) (by omega) (by rw [e3]; omega)).trans ent_perm2)), q, trivial, he, rfl⟩
end Go.Proofs.YtejhdhmopiahhaaDoor

/- What a call is handed, as frozen rows; what it leaves. -/
namespace Go.Sp
open Go.RowKit
theorem list_pick {α β γ : Type} (f : β → α) (R : γ → β → Prop) : ∀ (cs : List α) (ds : List γ), cs.length = ds.length → (∀ (i : Nat) (c : α) (d : γ), cs[i]? = some c → ds[i]? = some d → ∃ y, c = f y ∧ R d y) →
    ∃ ys : List β, cs = ys.map f ∧ ∀ (i : Nat) (y : β) (d : γ), ys[i]? = some y → ds[i]? = some d → R d y
  | [], [], _, _ => ⟨[], rfl, fun i y d h => by simp at h⟩
  | [], _ :: _, h, _ => by simp at h
  | _ :: _, [], h, _ => by simp at h
  | c :: cs, d :: ds, hl, h => by
    obtain ⟨y, h1, h2⟩ := h 0 c d rfl rfl
    obtain ⟨ys, h3, h4⟩ := list_pick f R cs ds (by simpa using hl) (fun i c' d' hc hd => h (i + 1) c' d' (by simpa using hc) (by simpa using hd))
    refine ⟨y :: ys, by rw [List.map_cons, ← h1, ← h3], fun i y' d' hy hd => ?_⟩
    cases i with
    | zero => simp at hy hd; subst hy; subst hd; exact h2
    | succ i => exact h4 i y' d' (by simpa using hy) (by simpa using hd)
section
variable {H : Type} {enc : TypeId × Value → H} {P : Program} {W : World} {base : Nat} {sp : Nat → Bool} {held : Bool}
theorem cells_get {a : Addr} : ∀ {n : Nat} {cs : List Value}, W.cells? base a n = some cs → cs.length = n ∧ ∀ i u, cs[i]? = some u → W.cell? (a.add i) = some u := by
  intro n cs h
  unfold World.cells? at h
  split at h
  · refine ⟨by simpa using mapM_some_length h, fun i u hu => ?_⟩
    have hi : i < n := by have h1 := mapM_some_length h; have h2 := (List.getElem?_eq_some_iff.1 hu).1; simp at h1; omega
    have := mapM_some_get h i i (by simp [hi])
    rw [this, hu]
  · cases h
theorem read_slice {t e : TypeId} {sz n : Nat} {cs : List Value} {x : DataW H × List MemPlace} (ht : P.underlying t = some (.slice e)) (hc : P.cellsOf e = sz) (hz : 0 < sz) (h : DataW.trod enc P W base sp held n t cs = some x) :
    ∃ (p : Option Addr) (len cap : Nat) (css : List (List Value)) (Ds : List (DataW H)), cs = [.slice p len cap] ∧ css.length = len ∧ Ds.length = len ∧ len ≤ maxLen ∧ len ≤ cap ∧ (∀ k, Base W k → Vw sz (.slice p len cap) len css.flatten k) ∧
      (∀ (i : Nat) (c : List Value) (D : DataW H), css[i]? = some c → Ds[i]? = some D → c.length = sz ∧ ∃ m q, DataW.trod enc P W base sp held m e c = some (D, q)) ∧ (x.1 = .nil ∧ Ds = [] ∨ ∃ spare, x.1 = .slice Ds spare) := by
  rcases Go.Deep.open_slice ht h with ⟨h1, h2⟩ | ⟨a, len, cap, m, n', D, Pl, h1, _, hle, hcap, hm, h2, h3⟩
  · refine ⟨none, 0, 0, [], [], h1, rfl, rfl, Nat.zero_le _, Nat.zero_le _, fun k _ => ⟨by simp, Nat.zero_le _, none, 0, rfl, .inl rfl⟩, fun i c D hc' => by simp at hc', .inl ⟨by rw [h2], rfl⟩⟩
  · have hlm : len ≤ m := by rw [hm]; split <;> omega
    have hch : ∀ i, ∃ c : List Value, c.length = sz ∧ (i < len → W.cells? base (a.add (i * sz)) sz = some c ∧ DataW.trod enc P W base sp held n' e c = some (D i, Pl i)) := by
      intro i
      by_cases hi : i < len
      · obtain ⟨c, hc1, hc2⟩ := h3 i (by omega)
        rw [hc] at hc1
        exact ⟨c, (cells_get hc1).1, fun _ => ⟨hc1, hc2⟩⟩
      · exact ⟨List.replicate sz undef, by simp, fun h => absurd h hi⟩
    obtain ⟨C, hC⟩ := Classical.axiomOfChoice hch
    refine ⟨some a, len, cap, (List.range len).map C, (List.range len).map D, h1, by simp, by simp, by omega, hle, fun k hk => ?_, fun i c d hc' hd => ?_, .inr ⟨_, by rw [h2]⟩⟩
    · have hlen : ((List.range len).map C).flatten.length = len * sz := by
        rw [← List.flatMap_def, length_flat (fun x => (hC x).1)]; simp
      refine ⟨hlen, by omega, _, _, rfl, ?_⟩
      by_cases h0 : len = 0
      · exact .inl h0
      · right
        obtain ⟨hb, _⟩ := (hC 0).2 (by omega)
        have hcell : ∀ i u, ((List.range len).map C).flatten[i]? = some u → W.cell? (a.add i) = some u := by
          intro i u hu
          have hi : i < len * sz := by rw [← hlen]; exact (List.getElem?_eq_some_iff.1 hu).1
          have hj : i / sz < len := (Nat.div_lt_iff_lt_mul hz).2 hi
          have hr : i % sz < sz := Nat.mod_lt _ hz
          have e1 : i = i / sz * sz + i % sz := by rw [Nat.mul_comm]; exact (Nat.div_add_mod i sz).symm
          have hg := flat_get (f := C) (fun x => (hC x).1) (List.range len) (i / sz) (i % sz) (i / sz) hr (by simp [hj])
          rw [← List.flatMap_def] at hu
          rw [e1, hg] at hu
          have := (cells_get ((hC (i / sz)).2 hj).1).2 _ _ hu
          rw [e1]
          have e2 : (a.add (i / sz * sz)).add (i % sz) = a.add (i / sz * sz + i % sz) := by
            unfold Addr.add
            by_cases hA : i / sz * sz = 0 <;> by_cases hB : i % sz = 0 <;> simp [hA, hB] <;> omega
          rw [← e2]; exact this
        have hne : ((List.range len).map C).flatten[0]? ≠ none := by
          rw [Ne, List.getElem?_eq_none_iff, hlen]
          have : 0 < len * sz := Nat.mul_pos (by omega) hz
          omega
        obtain ⟨u0, hu0⟩ := Option.ne_none_iff_exists'.1 hne
        have hA := hcell 0 u0 hu0
        obtain ⟨b, o, s⟩ := a
        have e0 : (⟨b, o, s⟩ : Addr).add 0 = ⟨b, o, s⟩ := by simp [Addr.add]
        rw [e0] at hA
        unfold World.cell? at hA
        split at hA
        · rename_i c ty fz hbk
          have hs : s = none := by
            cases s with
            | none => rfl
            | some _ => simp at hA
          subst hs
          refine ⟨b, o, c.toList, ty, fz, rfl, by simpa using hk.1 _ _ hbk, fun i u hu => ?_⟩
          have h4 := hcell i u hu
          rw [addr_add] at h4
          unfold World.cell? at h4
          simp only [hbk] at h4
          simpa using h4
        · cases hA
    · have hi : i < len := by have := (List.getElem?_eq_some_iff.1 hc').1; simpa using this
      simp [hi] at hc' hd
      subst hc'; subst hd
      exact ⟨(hC i).1, _, _, ((hC i).2 hi).2⟩
theorem read_int {t : TypeId} {k : IntKind} {n : Nat} {cs : List Value} {x : DataW H × List MemPlace} (ht : P.underlying t = some (.int k)) (h : DataW.trod enc P W base sp held n t cs = some x) : ∃ z : Int, cs = [.int k z] ∧ x.1 = .lit (.int k z) ∧ (Lit.int k z).wf = true := by
  obtain ⟨z, h1, h2, h3⟩ := DataW.trod_int ht h
  exact ⟨z, h1, by rw [h2], h3⟩
/-- A row of numbers. -/
theorem read_ints {t e : TypeId} {k : IntKind} {n : Nat} {cs : List Value} {x : DataW H × List MemPlace} (ht : P.underlying t = some (.slice e)) (he : P.underlying e = some (.int k)) (hc : P.cellsOf e = 1) (h : DataW.trod enc P W base sp held n t cs = some x) :
    ∃ (p : Option Addr) (cap : Nat) (zs : List Int) (Ds : List (DataW H)), cs = [.slice p zs.length cap] ∧ Ds.length = zs.length ∧ zs.length ≤ maxLen ∧ zs.length ≤ cap ∧ (∀ q, Base W q → Vw 1 (.slice p zs.length cap) zs.length (zs.map (.int k)) q) ∧ (∀ z ∈ zs, (Lit.int k z).wf = true) ∧
      (x.1 = .nil ∧ Ds = [] ∨ ∃ spare, x.1 = .slice Ds spare) := by
  obtain ⟨p, len, cap, css, Ds, h1, h2, h3, h4, h4', h5, h6, h7⟩ := read_slice ht hc (by decide) h
  obtain ⟨zs, hz, hw⟩ := list_pick (fun z : Int => [Value.int k z]) (fun _ z => (Lit.int k z).wf = true) css Ds (by omega) (fun i c D hc' hd => by
    obtain ⟨_, m, q, hq⟩ := h6 i c D hc' hd
    obtain ⟨z, h8, _, h9⟩ := read_int he hq
    exact ⟨z, h8, h9⟩)
  have hl : zs.length = len := by rw [← h2, hz]; simp
  subst hl
  refine ⟨p, cap, zs, Ds, h1, h3, h4, h4', fun q hq => ?_, fun z hz' => ?_, h7⟩
  · have := h5 q hq
    rw [hz] at this
    have e : (zs.map fun z : Int => [Value.int k z]).flatten = zs.map (.int k) := by
      clear this hz hw h5 h6 h4 h4' h3 h2 h1
      induction zs with
      | nil => rfl
      | cons z zs ih => simp [ih]
    rw [e] at this
    exact this
  · obtain ⟨i, hi, rfl⟩ := List.mem_iff_getElem.1 hz'
    exact hw i _ _ (List.getElem?_eq_getElem hi) (List.getElem?_eq_getElem (show i < Ds.length by omega))
end
/-- What is left, where all that there was is as it was. -/
theorem below_of_base {w W : World} {L : List HP} (h : Sat w (Base W :: L)) : Below W.heap.size W w := by
  obtain ⟨h1, h2, h3, h4⟩ := h.base
  refine ⟨h2, h3, h4, ?_, fun k hk => ?_⟩
  · by_cases h0 : W.heap.size = 0
    · omega
    · have e := Array.getElem?_eq_getElem (show W.heap.size - 1 < W.heap.size by omega)
      have := (Array.getElem?_eq_some_iff.1 (h1 _ _ e)).1
      omega
  · have e := Array.getElem?_eq_getElem hk
    rw [e]
    exact h1 k _ e
section
variable {H : Type} {enc : TypeId × Value → H} {P : Program}
theorem trodAll_stays (hl : laidOutB P = true) {W W' : World} (hb : Below W.heap.size W W') : ∀ {ts : List TypeId} {vs : List Value} {ds : List (DataW H)} {ps : List MemPlace}, (∀ t ∈ ts, P.readableRec t = true ∧ t < P.types.size) →
    DataW.TrodAll enc P W 0 (fun _ => true) true ts vs ds ps → (∀ x ∈ ps, x.block < W.heap.size) → DataW.TrodAll enc P W' 0 (fun b => decide (b < W.heap.size)) true ts vs ds ps
  | [], [], [], _, _, h, _ => h
  | t :: ts, v :: vs, d :: ds, ps, hr, h, hp => by
    obtain ⟨p, q, h1, h2, rfl⟩ := h
    exact ⟨p, q, Below.trod hl (hr t (by simp)).1 (hr t (by simp)).2 h1 hb (fun x hx => hp x (by simp [hx])), trodAll_stays hl hb (fun t ht => hr t (by simp [ht])) h2 (fun x hx => hp x (by simp [hx])), rfl⟩
  | [], _ :: _, _, _, _, h, _ => h.elim
  | [], [], _ :: _, _, _, h, _ => h.elim
  | _ :: _, [], _, _, _, h, _ => h.elim
  | _ :: _, _ :: _, [], _, _, h, _ => h.elim
/-- A law that answered true, and left all as it was. -/
theorem post_true {f : Func} {s : ChangeSpec} {apart handsOn : Bool} {W W' : World} {args : Array Value} {ds gs : List (DataW H)} {before : List MemPlace} {t : TypeId} (hl : laidOutB P = true) (hr : ∀ t ∈ f.params.toList, P.readableRec t = true ∧ t < P.types.size)
    (hW : DataW.Whole enc P f.params.toList s.vars apart W args.toList ds gs before) (hb : Below W.heap.size W W') (hv : s.vars = []) (hs : s.fn H (ds ++ gs) = { results := [.lit (.bool true)], args := ds }) (ht : f.resultTypes = #[t]) (hu : P.underlying t = some .bool) :
    s.post enc P f apart true handsOn false W args (.bool true) W' := by
  have hW' := hW
  obtain ⟨p, q, h1, h2, rfl, _, _⟩ := hW
  rw [hv] at h2
  have hq : q = [] := by
    cases gs with
    | nil => exact h2
    | cons _ _ => exact h2.elim
  subst hq
  rw [List.append_nil] at hW'
  have h3 := trodAll_stays hl hb hr h1 (fun x hx => hW'.lt x hx)
  refine ⟨ds, gs, p, [], p, [], hW', ?_, ?_, ?_, Below.frame hb _, fun h => by cases h⟩
  · rw [hs, ht]
    exact ⟨[], [], ⟨1, by simp [DataW.trod, hu, Value.cells]⟩, rfl, rfl⟩
  · rw [hs]; exact h3
  · rw [hs, hv]; rfl
end
theorem base_all {W : World} : ∀ {L : List HP}, (∀ A ∈ L, ∀ k, Base W k → A k) → Sat W (Base W :: L)
  | [], _ => sat_base W
  | A :: L, h => by
    have h1 : Sat W (Base W :: Base W :: L) := (base_all (L := L) (fun B hB => h B (by simp [hB]))).dup (pers_base W)
    exact (h1.conv (fun k hk => h A (by simp) k hk)).swap
/-- A contract, at a call from without. -/
theorem row_of_ct {P : Program} {f : FuncId} {args : Array Value} {W : World} {v : Value} {L : List HP} (hc : Ct P f args L (RetV v [])) (hL : ∀ A ∈ L, ∀ k, Base W k → A k) : Calls P f args W fun e W' => e = .returned v ∧ Below W.heap.size W W' :=
  (hc (Base W) W (base_all hL)).mono fun _ _ ⟨_, _, ⟨he, hl⟩, hs⟩ => ⟨he, below_of_base (by rw [hl] at hs; exact hs)⟩
end Go.Sp

/- What the laid variable gives; a world that meets the condition. -/
namespace Go.Proofs.YtejhdhmopiahhaaDoor
open Go Go.Sp Go.ChangeShapes Go.WideShapes Go.ChangeAt Go.RowKit
theorem own_ : ownKnob Tryd.prog.godebug = none := by kernel_rfl
theorem laidOut_ : laidOutB Tryd.prog = true := by kernel_rfl
theorem et_ : Tryd.prog.globalNamed "errors.errorType" = some 0 := by kernel_rfl
theorem rt_ : (Tryd.prog.cutTypes.find? (·.1 == "internal/reflectlite.rtype")).map (·.2) = some 135 := by kernel_rfl
theorem oneRow_ : ((List.range Tryd.prog.types.size).filter fun t => Tryd.prog.rowNamed t [101, 114, 114, 111, 114]) = [31] := by kernel_rfl
abbrev laid_ : List (String × DataW Unit) := [("errors.errorType", Rows.laid_errors_errorType)]
theorem gl_of_laid {W : World} (h : laidMetH Tryd.prog laid_ W) : ∃ te fz, ∀ k, Base W k → Gl te fz k := by
  have h' : laidMet Tryd.prog [] W ∧ handlesMet Tryd.prog laid_ W := h
  obtain ⟨name, u, ty, e1, e2, e3, e4, e5⟩ := h'.2 _ (List.mem_singleton.2 rfl)
  have en : name = [101, 114, 114, 111, 114] := (Option.some.inj e1).symm
  subst en
  obtain rfl := Option.some.inj (rt_.symm.trans e2)
  have hm : ty ∈ (List.range Tryd.prog.types.size).filter fun t => Tryd.prog.rowNamed t [101, 114, 114, 111, 114] := List.mem_filter.2 ⟨List.mem_range.2 e3, e4⟩
  rw [oneRow_] at hm
  obtain rfl := List.mem_singleton.1 hm
  have hh : typeHandle Tryd.prog 31 = .pointer (some ⟨1, 31, none⟩) := by kernel_rfl
  rw [hh] at e5
  simp only [World.var?, et_, Option.bind_some] at e5
  split at e5
  · rename_i cs te fz hb
    cases e5
    exact ⟨te, fz, fun k hk => hk.1 _ _ hb⟩
  · cases e5
/-- A world that meets the condition: the settled one, the variable's cell laid. -/
noncomputable def laidWorld (os : Os) : World :=
  let w0 := World.holding Tryd.prog os ⟨#[], #[], []⟩
  { w0 with heap := w0.heap.modify 0 fun
      | .cells _ t frozen => .cells #[types 31] t frozen
      | o => o }
theorem laidWorld_met (os : Os) (args : Array Value) : laidMetH Tryd.prog laid_ ((laidWorld os).forCall (fun _ _ => 0) ⟨#[], args, []⟩).memory :=
  laidMetH_of_parts (laidMet_nil _ _) (by kernel_rfl)
end Go.Proofs.YtejhdhmopiahhaaDoor

/- Drawn regions: whatever may come up now alone, by any rule of operations; the first part of a text. -/
namespace Go.Sp
open Go.RowKit
/-- The only one that may come up now. -/
def onlyR (ops : Array Oper) (ls : List Bool) : List Nat → Option Nat
  | [] => none
  | i :: r => match rdy ops ls i with
    | true => match orL (rdy ops ls) r with | true => none | false => some i
    | false => onlyR ops ls r
theorem onlyR_filter {ops : Array Oper} {ls : List Bool} {i : Nat} : ∀ {l : List Nat}, onlyR ops ls l = some i → l.filter (rdy ops ls) = [i] := by
  intro l
  induction l with
  | nil => intro h; cases h
  | cons j r ih =>
    intro h
    simp only [onlyR] at h
    split at h
    · rename_i hj
      split at h
      · cases h
      · rename_i hn
        cases h
        rw [List.filter_cons, hj]
        simp only [if_true, List.cons.injEq, true_and]
        rw [orL_eq, List.any_eq_false] at hn
        rw [List.filter_eq_nil_iff]
        exact hn
    · rename_i hj
      rw [List.filter_cons, hj]
      exact ih h
theorem onlyR_ready {ops : Array Oper} {ls : List Bool} {i : Nat} (h : onlyR ops ls (idxs ops.toList 0) = some i) : Region.ready .any ops ls.toArray = [i] := by
  rw [rdy_eq, idxs_range]
  exact onlyR_filter h
/-- It is wanted, as far as is known. -/
def gokL (ops : Array Oper) (E : Env) : Option (Nat × Bool) → Bool
  | none => true
  | some (j, w) => match gval ops E j with | some b => b == w | none => false
section
variable {P : Program} {N : Nat} {E : Env} {D : List Deferred} {L L0 : List HP} {Q : Post}
theorem want_ok {ops : Array Oper} {o : Oper} (h : gokL ops E o.guard = true) (a : Act) (hr : Rep N E D a) : Region.wanted o (yielded ops a.tmps) = true := by
  cases hg : o.guard with
  | none => simp [Region.wanted, hg]
  | some x =>
    obtain ⟨j, w⟩ := x
    rw [hg] at h
    simp only [gokL] at h
    split at h
    · rename_i b hb
      have : b = w := by simpa using h
      subst this
      simp [Region.wanted, hg, yielded_of hr hb]
    · cases h
/-- It yields, stores, enters a function, or panics. -/
def Tame (P : Program) (o : Oper) : Prop := ∀ (a : Act) (w : World), match (execOp a.eval o).run P w with
  | .ok (.value _) _ | .ok .skip _ | .ok (.enter _ _) _ | .halt (.panic _) _ => True
  | _ => False
theorem JG_jo {ops : Array Oper} {fuel : Nat} {ls : List Bool} {i : Nat} {o : Oper} (hn : onlyR ops ls (idxs ops.toList 0) = some i) (ho : ops.toList[i]? = some o) (hg : gokL ops E o.guard = true) (ht : Tame P o)
    (h : JO P N none o E D L (fun E' D' L' => Ent L' L0 ∧ JG P N ops fuel (ls.set i true) E' D' L' L0 Q) Q) : JG P N ops (fuel + 1) ls E D L L0 Q := by
  intro F a w hrep hsat
  have hw := want_ok (o := o) hg a hrep
  rw [Array.getElem?_toList] at ho
  refine wpAnyH_all (onlyR_ready hn) (by simp) fun k hk => ?_
  simp only [List.mem_singleton] at hk
  subst hk
  simp only [wpOp, ho, hw, if_true]
  refine .inl ?_
  have h1 := (h F a w hrep hsat (fun a' w' => Sat w' (F :: L0) ∧ wpAnyH P .any ops (lift N F Q) (fun w => Sat w (F :: L0)) fuel (ls.toArray.setIfInBounds k true) a' w') (fun E' D' L' a' w' hn hr' hs' => ⟨hn.1 F w' hs', by
    rw [List.setIfInBounds_toArray]
    exact hn.2 F a' w' hr' hs'⟩)).2
  rw [show (FW none).round = none from rfl, Oper.semAt_none] at h1
  have ht1 := ht a w
  unfold Oper.wp
  cases hres : (execOp a.eval o).run P w with
  | ok n w' =>
    rw [hres] at h1 ht1
    cases n with
    | value v => exact h1
    | skip => exact h1
    | enter f args =>
      rw [Oper.uponIn_enter] at h1
      rw [Oper.upon_enter]
      exact callsIn_wide.1 h1.2
    | _ => exact ht1.elim
  | halt z w' =>
    rw [hres] at h1 ht1
    cases z <;> first | exact h1 | exact ht1.elim
section
variable {d : Option Nat} {ty : TypeId} {pos : String} {after : Array Edge} {g : Option (Nat × Bool)}
theorem tame_call {f : FuncId} [hf : CF P f] {args : Array Operand} {ts : Array TypeId} : Tame P ⟨d, .call ⟨.value (.func f), args, ts⟩, ty, pos, after, g⟩ := fun a w => by
  have e : (execOp a.eval ⟨d, .call ⟨.value (.func f), args, ts⟩, ty, pos, after, g⟩).run P w = .ok (.enter f (args.map a.eval)) w := by simp [execOp, resolve, Act.eval, Deferred.ofValue, invoke, hf.h]
  rw [e]
  trivial
theorem tame_value {o : Oper} (s : (Operand → Value) → Sem Value) (h : ∀ ρ, execOp ρ o = (do pure (Next.value (← s ρ)))) (hp : ∀ ρ w, match (s ρ).run P w with | .ok _ _ | .halt (.panic _) _ => True | _ => False) : Tame P o := fun a w => by
  rw [h]
  have h1 := hp a.eval w
  simp only [Sem.run_bind]
  cases hr : (s a.eval).run P w with
  | ok v w' => simp
  | halt z w' =>
    rw [hr] at h1
    cases z <;> first | trivial | exact h1.elim
/-- s[:h]. -/
theorem JQ_headS {t : TypeId} [TU P t .string] {x hi : Operand} {bs : List UInt8} {h : Nat} {ik : IntKind} (hx : ev E x = some (str bs)) (hh : ev E hi = some (.int ik (h : Int))) (h2 : h ≤ bs.length) :
    JQ P N ⟨d, .slice t x none (some hi) none, ty, pos, after, g⟩ E D L (str (bs.take h)) := fun F a hr w hs => by
  have h5 : (Instr.sliceAt t (str bs) none (some (.int ik (h : Int))) none).run P w = (Instr.slice t (str bs) none (some (.int ik (h : Int))) none).run P w := by simp [Instr.sliceAt, run_underlying' (TU.h (P := P) (t := t))]
  have h6 : (⟨bs.toArray⟩ : ByteArray).extract 0 h = ⟨(bs.take h).toArray⟩ := by rw [extract_str, List.drop_zero]
  simp [execOp, hr.eval hx, hr.eval hh, h5, Instr.slice, Instr.sliceBounds, run_underlying' (TU.h (P := P) (t := t)), size_str, run_sliceBound _ ik (h : Int) bs.length _ (by omega) (by omega), h6]
end
end
end Go.Sp

/- Texts: length, comparison, sums; the lesser of two lengths. -/
namespace Go.Sp
open Go.RowKit
section
variable {P : Program} {N : Nat} {rd : Option Nat} {E : Env} {D : List Deferred} {L : List HP} {Q : Post} {next : Env → List Deferred → List HP → Prop}
variable {d : Option Nat} {ty : TypeId} {pos : String} {after : Array Edge} {g : Option (Nat × Bool)}
theorem JQ_lenB {x : Operand} {t : TypeId} [TU P t .string] {bs : List UInt8} (hx : ev E x = some (str bs)) : JQ P N ⟨d, .call ⟨.builtin .len, #[x], #[t]⟩, ty, pos, after, g⟩ E D L (.int .i64 (bs.length : Int)) := by
  have := JQ_lenS (P := P) (N := N) (E := E) (D := D) (L := L) (d := d) (ty := ty) (pos := pos) (after := after) (g := g) (t := t) hx
  rw [size_str] at this
  exact this
theorem JQ_eqS {x y : Operand} {t u : TypeId} {a b : List UInt8} (hx : ev E x = some (str a)) (hy : ev E y = some (str b)) : JQ P N ⟨d, .binOp .eql t x y u, ty, pos, after, g⟩ E D L (.bool (decide (a = b))) := fun F ac hr w hs => by
  have h : (a == b) = decide (a = b) := by by_cases h : a = b <;> simp [h]
  simp [execOp, hr.eval hx, hr.eval hy, eqGuard, binOp_string_eql, h]
theorem JQ_neS {x y : Operand} {t u : TypeId} {a b : List UInt8} (hx : ev E x = some (str a)) (hy : ev E y = some (str b)) : JQ P N ⟨d, .binOp .neq t x y u, ty, pos, after, g⟩ E D L (.bool (decide (a ≠ b))) := fun F ac hr w hs => by
  have h : (!(a == b)) = decide (a ≠ b) := by by_cases h : a = b <;> simp [h]
  simp [execOp, hr.eval hx, hr.eval hy, eqGuard, binOp_string_neq, h]
/-- A text beside itself. -/
theorem JQ_neS0 {x y : Operand} {t u : TypeId} {a : List UInt8} (hx : ev E x = some (str a)) (hy : ev E y = some (str a)) : JQ P N ⟨d, .binOp .neq t x y u, ty, pos, after, g⟩ E D L (.bool false) := by
  have := JQ_neS (P := P) (N := N) (D := D) (L := L) (d := d) (ty := ty) (pos := pos) (after := after) (g := g) (t := t) (u := u) hx hy
  simpa using this
theorem JQ_eqS0 {x y : Operand} {t u : TypeId} {a : List UInt8} (hx : ev E x = some (str a)) (hy : ev E y = some (str a)) : JQ P N ⟨d, .binOp .eql t x y u, ty, pos, after, g⟩ E D L (.bool true) := by
  have := JQ_eqS (P := P) (N := N) (D := D) (L := L) (d := d) (ty := ty) (pos := pos) (after := after) (g := g) (t := t) (u := u) hx hy
  simpa using this
/-- An interface that is nil, or not. -/
theorem JQ_neIf0 {x : Operand} {t u : TypeId} {ms : Array (String × TypeId)} [TU P t (.interface ms)] (hx : ev E x = some .nilIface) : JQ P N ⟨d, .binOp .neq t x (.const .nilIface) u, ty, pos, after, g⟩ E D L (.bool false) := fun F a hr w hs => by
  have h3 : a.eval (.const .nilIface) = .nilIface := rfl
  simp [execOp, hr.eval hx, h3, eqGuard, binOp, run_eqI (P := P) (t := t) .nilIface (.inl rfl) w, isNilI]
theorem JQ_neIf1 {x : Operand} {t u s : TypeId} {v : Value} {ms : Array (String × TypeId)} [TU P t (.interface ms)] (hx : ev E x = some (.iface s v)) : JQ P N ⟨d, .binOp .neq t x (.const .nilIface) u, ty, pos, after, g⟩ E D L (.bool true) := fun F a hr w hs => by
  have h3 : a.eval (.const .nilIface) = .nilIface := rfl
  simp [execOp, hr.eval hx, h3, eqGuard, binOp, run_eqI (P := P) (t := t) (.iface s v) (.inr ⟨s, v, rfl⟩) w, isNilI]
theorem JQ_eqIF {x y : Operand} {k : IntKind} {t u : TypeId} {m n : Int} (hx : ev E x = some (.int k m)) (hy : ev E y = some (.int k n)) (h : m ≠ n) : JQ P N ⟨d, .binOp .eql t x y u, ty, pos, after, g⟩ E D L (.bool false) := by
  have := JQ_eqI (P := P) (N := N) (D := D) (L := L) (d := d) (ty := ty) (pos := pos) (after := after) (g := g) (t := t) (u := u) hx hy
  rw [decide_eq_false h] at this
  exact this
/-- A number beside itself. -/
theorem JQ_neI0 {x y : Operand} {k : IntKind} {t u : TypeId} {m : Int} (hx : ev E x = some (.int k m)) (hy : ev E y = some (.int k m)) : JQ P N ⟨d, .binOp .neq t x y u, ty, pos, after, g⟩ E D L (.bool false) := by
  have := JQ_neI (P := P) (N := N) (D := D) (L := L) (d := d) (ty := ty) (pos := pos) (after := after) (g := g) (t := t) (u := u) hx hy
  simpa using this
theorem JQ_eqI00 {x y : Operand} {k : IntKind} {t u : TypeId} {m : Int} (hx : ev E x = some (.int k m)) (hy : ev E y = some (.int k m)) : JQ P N ⟨d, .binOp .eql t x y u, ty, pos, after, g⟩ E D L (.bool true) := by
  have := JQ_eqI (P := P) (N := N) (D := D) (L := L) (d := d) (ty := ty) (pos := pos) (after := after) (g := g) (t := t) (u := u) hx hy
  simpa using this
theorem JQ_addS {x y : Operand} {t u : TypeId} {a b : List UInt8} (hx : ev E x = some (str a)) (hy : ev E y = some (str b)) (hb : a.length + b.length ≤ 9223372036854775807) : JQ P N ⟨d, .binOp .add t x y u, ty, pos, after, g⟩ E D L (str (a ++ b)) := fun F ac hr w hs => by
  have h1 : ¬ ((((⟨a.toArray⟩ : ByteArray).size + (⟨b.toArray⟩ : ByteArray).size : Nat) : Int) > IntKind.i64.max) := by
    rw [size_str, size_str]
    have : IntKind.i64.max = 9223372036854775807 := by decide
    omega
  have h2 : (⟨a.toArray⟩ : ByteArray) ++ ⟨b.toArray⟩ = ⟨(a ++ b).toArray⟩ := by
    apply ByteArray.ext
    simp
  simp only [execOp, hr.eval hx, hr.eval hy, eqGuard, binOp_string_add, Op.stringOp, h1, if_false, h2]
  simp
theorem JQ_minN {x y : Operand} {ts : Array TypeId} {m n : Nat} (hx : ev E x = some (.int .i64 (m : Int))) (hy : ev E y = some (.int .i64 (n : Int))) : JQ P N ⟨d, .call ⟨.builtin .min, #[x, y], ts⟩, ty, pos, after, g⟩ E D L (.int .i64 ((min m n : Nat) : Int)) := fun F a hr w hs => by
  have h1 : (if n < m then (n : Int) else (m : Int)) = ((min m n : Nat) : Int) := by split <;> omega
  simp [execOp, resolve, invoke, builtin, hr.eval hx, hr.eval hy, run_min_int2, h1]
theorem JO_minN {x y : Operand} {ts : Array TypeId} {m n : Nat} (hx : ev E x = some (.int .i64 (m : Int))) (hy : ev E y = some (.int .i64 (n : Int))) (hd : dok N d = true) (h : next (put E d (.int .i64 ((min m n : Nat) : Int))) D L) :
    JO P N rd ⟨d, .call ⟨.builtin .min, #[x, y], ts⟩, ty, pos, after, g⟩ E D L next Q := JO_min hx hy hd (by rw [show min (m : Int) (n : Int) = ((min m n : Nat) : Int) from by omega]; exact h)
end
end Go.Sp

/- Arguments as frozen rows, whatever their elements. -/
namespace Go.Sp
open Go.RowKit
section
variable {H : Type} {enc : TypeId × Value → H} {P : Program} {W : World} {base : Nat} {sp : Nat → Bool} {held : Bool}
theorem read_row {β : Type} {t e : TypeId} {sz n : Nat} {cs : List Value} {x : DataW H × List MemPlace} (f : β → List Value) (R : β → Prop) (ht : P.underlying t = some (.slice e)) (hc : P.cellsOf e = sz) (hz : 0 < sz)
    (hel : ∀ (m : Nat) (c : List Value) (y : DataW H × List MemPlace), c.length = sz → DataW.trod enc P W base sp held m e c = some y → ∃ b, c = f b ∧ R b) (h : DataW.trod enc P W base sp held n t cs = some x) :
    ∃ (p : Option Addr) (cap : Nat) (ys : List β), cs = [.slice p ys.length cap] ∧ ys.length ≤ cap ∧ ys.length ≤ maxLen ∧ (∀ y ∈ ys, R y) ∧ ∀ k, Base W k → Vw sz (.slice p ys.length cap) ys.length (ys.flatMap f) k := by
  obtain ⟨p, len, cap, css, Ds, h1, h2, h3, h4, h4', h5, h6, h7⟩ := read_slice ht hc hz h
  obtain ⟨ys, hy, hw⟩ := list_pick f (fun _ b => R b) css Ds (by omega) (fun i c D hc' hd => by
    obtain ⟨hl, m, q, hq⟩ := h6 i c D hc' hd
    exact hel m c _ hl hq)
  have hl : ys.length = len := by rw [← h2, hy]; simp
  subst hl
  refine ⟨p, cap, ys, h1, h4', h4, fun y hy' => ?_, fun q hq => ?_⟩
  · obtain ⟨i, hi, rfl⟩ := List.mem_iff_getElem.1 hy'
    exact hw i _ (Ds[i]'(by omega)) (List.getElem?_eq_getElem hi) (List.getElem?_eq_getElem (by omega))
  · have := h5 q hq
    rw [hy, ← List.flatMap_def] at this
    exact this
theorem ok_slice_any {t e : TypeId} {v : Value} {r : Go.Reach} {b0 : Nat} (hu : P.underlying t = some (.slice e)) (hv : Value.okWide P W r b0 t v) : ∃ p len cap, v = .slice p len cap := by
  unfold Value.okWide at hv
  rw [hu] at hv
  simp only [Cell.okWide, hu, Cell.ok] at hv
  split at hv <;> simp_all
/-- The same of an argument. -/
theorem read_rowV {β : Type} {t e : TypeId} {sz : Nat} {v : Value} {d : DataW H} {ps : List MemPlace} {r : Go.Reach} {b0 : Nat} (f : β → List Value) (R : β → Prop) (ht : P.underlying t = some (.slice e)) (hc : P.cellsOf e = sz) (hz : 0 < sz)
    (hel : ∀ (m : Nat) (c : List Value) (y : DataW H × List MemPlace), c.length = sz → DataW.trod enc P W base sp held m e c = some y → ∃ b, c = f b ∧ R b) (hv : Value.okWide P W r b0 t v) (h : DataW.Trod enc P W base sp held t v d ps) :
    ∃ (p : Option Addr) (cap : Nat) (ys : List β), v = .slice p ys.length cap ∧ ys.length ≤ cap ∧ ys.length ≤ maxLen ∧ (∀ y ∈ ys, R y) ∧ ∀ k, Base W k → Vw sz (.slice p ys.length cap) ys.length (ys.flatMap f) k := by
  obtain ⟨n, hn⟩ := h
  obtain ⟨p0, l0, c0, rfl⟩ := ok_slice_any ht hv
  obtain ⟨p, cap, ys, h1, h2⟩ := read_row f R ht hc hz hel hn
  cases h1
  exact ⟨p0, c0, ys, rfl, h2⟩
theorem read_str {t : TypeId} {v : Value} {d : DataW H} {ps : List MemPlace} {r : Go.Reach} {b0 : Nat} (ht : P.underlying t = some .string) (hv : Value.okWide P W r b0 t v) (h : DataW.Trod enc P W base sp held t v d ps) : ∃ bs : List UInt8, v = str bs ∧ bs.length ≤ maxLen := by
  obtain ⟨s, rfl, _, _, hs⟩ := Go.ChangeMaps.open_string ht hv h
  obtain ⟨a⟩ := s
  refine ⟨a.toList, ?_, ?_⟩
  · show Value.string ⟨a⟩ = .string ⟨a.toList.toArray⟩
    simp
  · simpa [ByteArray.size] using hs
theorem cell_str {t : TypeId} {n : Nat} {c : List Value} {x : DataW H × List MemPlace} (ht : P.underlying t = some .string) (h : DataW.trod enc P W base sp held n t c = some x) : ∃ bs : List UInt8, c = [str bs] ∧ bs.length ≤ maxLen := by
  obtain ⟨s, rfl, _, hs⟩ := DataW.trod_string ht h
  obtain ⟨a⟩ := s
  refine ⟨a.toList, ?_, ?_⟩
  · show [Value.string ⟨a⟩] = [.string ⟨a.toList.toArray⟩]
    simp
  · simpa [ByteArray.size] using hs
theorem wf_u8 {z : Int} (h : (Lit.int .u8 z).wf = true) : ∃ n : Nat, z = (n : Int) ∧ n ≤ 255 := by
  simp [Lit.wf, IntKind.min, IntKind.max, IntKind.signed, IntKind.bits] at h
  exact ⟨z.toNat, by omega, by omega⟩
theorem cell_u8 {t : TypeId} {n : Nat} {c : List Value} {x : DataW H × List MemPlace} (ht : P.underlying t = some (.int .u8)) (h : DataW.trod enc P W base sp held n t c = some x) : ∃ b : UInt8, c = [.int .u8 ((b.toNat : Nat) : Int)] := by
  obtain ⟨z, e, _, hw⟩ := read_int ht h
  obtain ⟨b, rfl, hb⟩ := wf_u8 hw
  refine ⟨UInt8.ofNat b, ?_⟩
  have h2 : (UInt8.ofNat b).toNat = b := by simp; omega
  rw [e, h2]
end
section
variable {P : Program} {N : Nat} {rd : Option Nat} {E : Env} {D : List Deferred} {L : List HP} {Q : Post}
/-- What is known wherever a block is left. -/
theorem J_inX {α : Sort _} {c : Code} {id : Nat} (E' : α → Env) (L' : α → List HP) (h : J P N rd c E D L (inB id (cutX E' D L' Q))) (k : ∀ x, Q .normal (E' x) D (L' x)) : J P N rd c E D L (inB id Q) := by
  intro F a w hr hs
  refine wpIn_mono (h F a w hr hs) ?_
  rintro e a w ⟨E1, D1, L1, q, r, s⟩
  cases e with
  | normal => obtain ⟨x, h1, rfl, h3⟩ := q; exact ⟨E' x, _, L' x, k x, r.sub h1, h3 F w s⟩
  | exit j =>
    by_cases hj : j = id
    · subst hj
      simp only [inB, Nat.beq_refl] at q
      obtain ⟨x, h1, rfl, h3⟩ := q
      refine ⟨E' x, _, L' x, ?_, r.sub h1, h3 F w s⟩
      simp only [inB, Nat.beq_refl]
      exact k x
    · have hb : Nat.beq j id = false := beq_false hj
      simp only [inB, hb] at q
      refine ⟨E1, D1, L1, ?_, r, s⟩
      simp only [inB, hb]
      exact q
  | goto l => exact ⟨E1, D1, L1, q, r, s⟩
  | ret => exact ⟨E1, D1, L1, q, r, s⟩
  | panic ch => exact ⟨E1, D1, L1, q, r, s⟩
  | outgrown => exact ⟨E1, D1, L1, q, r, s⟩
end
end Go.Sp

/- What the laws are handed. -/
namespace Go.Proofs.YtejhdhmopiahhaaDoor
open Go Go.Sp Go.ChangeShapes Go.WideShapes Go.ChangeAt Go.RowKit
theorem ce3 : Tryd.prog.cellsOf 3 = 1 := by kernel_rfl
theorem ce5 : Tryd.prog.cellsOf 5 = 1 := by kernel_rfl
theorem ce9 : Tryd.prog.cellsOf 9 = 1 := by kernel_rfl
theorem ce29 : Tryd.prog.cellsOf 29 = 2 := by kernel_rfl
theorem ul3 : Tryd.prog.underlying 3 = some (.int .i64) := by kernel_rfl
section
variable {H : Type} {enc : TypeId × Value → H} {W : World} {base : Nat} {sp : Nat → Bool} {held : Bool}
set_option maxRecDepth 20000 in
theorem cell_call {n : Nat} {c : List Value} {x : DataW H × List MemPlace} (h : DataW.trod enc Tryd.prog W base sp held n 29 c = some x) : ∃ b : Nat × Int, c = [.int .u8 (b.1 : Int), .int .i64 b.2] ∧ b.1 ≤ 255 := by
  obtain ⟨xs, m, _, _, hl, hlen, hf⟩ := DataW.trod_struct Tryd.underlying29 h
  rw [ce29] at hl
  match c, hl with
  | [c0, c1], _ =>
  match xs, hlen with
  | [y0, y1], _ =>
    have h0 := hf 0 _ rfl
    have h1 := hf 1 _ rfl
    simp only [List.getElem?_cons_zero, List.getElem?_cons_succ] at h0 h1
    obtain ⟨z0, e0, _, hw⟩ := read_int Tryd.underlying5 h0
    obtain ⟨z1, e1, _⟩ := read_int ul3 h1
    obtain ⟨b, rfl, hb⟩ := wf_u8 hw
    cases e0; cases e1
    exact ⟨(b, z1), rfl, hb⟩
end
end Go.Proofs.YtejhdhmopiahhaaDoor

/- Layer 1: pairs of readers: the program's, and the document's. -/
namespace Go.Proofs.YtejhdhmopiahhaaDoor
open Go Go.Sp
structure Pr where
  b : Nat
  d : Nat
  bs : List UInt8
  pl : Int
def PrA (p : Pr) : List HP := [RdB p.b p.bs p.pl, DrB p.d p.bs p.pl]
/-- A row of pairs, each of which reads the same bytes. -/
def Prs (l : List Pr) : HP := Star (l.flatMap PrA)
theorem perm_flat {l l' : List Pr} (h : l.Perm l') : (l.flatMap PrA).Perm (l'.flatMap PrA) := h.flatMap_right PrA
theorem prs_out {l l' : List Pr} {p : Pr} {L : List HP} (h : l.Perm (p :: l')) : Ent (Prs l :: L) (RdB p.b p.bs p.pl :: DrB p.d p.bs p.pl :: Prs l' :: L) := fun F w hs => by
  have h1 : Sat w (l.flatMap PrA ++ (F :: L)) := Sat.fold.2 hs.swap
  have h2 : Sat w (([RdB p.b p.bs p.pl, DrB p.d p.bs p.pl] ++ l'.flatMap PrA) ++ (F :: L)) := h1.perm (List.Perm.append_right _ ((perm_flat h).trans (by rw [List.flatMap_cons]; exact List.Perm.refl _)))
  have h3 : Sat w (l'.flatMap PrA ++ ([RdB p.b p.bs p.pl, DrB p.d p.bs p.pl] ++ (F :: L))) := h2.perm (by rw [← List.append_assoc]; exact List.Perm.append_right _ List.perm_append_comm)
  have h4 := Sat.fold.1 h3
  refine h4.perm ?_
  show (Prs l' :: RdB p.b p.bs p.pl :: DrB p.d p.bs p.pl :: F :: L).Perm (F :: RdB p.b p.bs p.pl :: DrB p.d p.bs p.pl :: Prs l' :: L)
  refine (List.Perm.swap _ _ _).trans (((List.Perm.swap _ _ _).cons _).trans ?_)
  refine (((List.Perm.swap _ _ _).cons _).cons _).trans ?_
  refine ((List.Perm.swap _ _ _).cons _).trans ?_
  exact (List.Perm.swap _ _ _).trans (List.Perm.refl _)
theorem prs_in {l l' : List Pr} {p : Pr} {L : List HP} (h : l.Perm (p :: l')) : Ent (RdB p.b p.bs p.pl :: DrB p.d p.bs p.pl :: Prs l' :: L) (Prs l :: L) := fun F w hs => by
  have h1 : Sat w (Prs l' :: RdB p.b p.bs p.pl :: DrB p.d p.bs p.pl :: F :: L) := hs.perm ((List.Perm.swap _ _ _).trans (((List.Perm.swap _ _ _).cons _).trans ((((List.Perm.swap _ _ _).cons _).cons _).trans (((List.Perm.swap _ _ _).cons _).trans (List.Perm.swap _ _ _)))) |>.trans (by
    exact List.Perm.refl _))
  have h2 : Sat w (l'.flatMap PrA ++ ([RdB p.b p.bs p.pl, DrB p.d p.bs p.pl] ++ (F :: L))) := Sat.fold.2 h1
  have h3 : Sat w (l.flatMap PrA ++ (F :: L)) := h2.perm (by
    rw [← List.append_assoc]
    refine List.Perm.append_right _ (List.perm_append_comm.trans ?_)
    refine List.Perm.trans ?_ (perm_flat h).symm
    rw [List.flatMap_cons]
    exact List.Perm.refl _)
  exact (Sat.fold.1 h3).swap
theorem erase_perm {α : Type} : ∀ (l : List α) (i : Nat) (p : α), l[i]? = some p → l.Perm (p :: l.eraseIdx i)
  | [], _, _, h => by simp at h
  | x :: l, 0, p, h => by simp at h; subst h; exact List.Perm.refl _
  | x :: l, i + 1, p, h => ((erase_perm l i p (by simpa using h)).cons x).trans (List.Perm.swap _ _ _)
theorem set_perm {α : Type} : ∀ (l : List α) (i : Nat) (p p' : α), l[i]? = some p → (l.set i p').Perm (p' :: l.eraseIdx i)
  | [], _, _, _, h => by simp at h
  | x :: l, 0, _, p', _ => List.Perm.refl _
  | x :: l, i + 1, p, p', h => ((set_perm l i p p' (by simpa using h)).cons x).trans (List.Perm.swap _ _ _)
theorem prs_take {l : List Pr} {i : Nat} {p : Pr} {L : List HP} (h : l[i]? = some p) : Ent (Prs l :: L) (RdB p.b p.bs p.pl :: DrB p.d p.bs p.pl :: Prs (l.eraseIdx i) :: L) := by
  exact prs_out (erase_perm l i p h)
theorem prs_put {l : List Pr} {i : Nat} {p p' : Pr} {L : List HP} (h : l[i]? = some p) : Ent (RdB p'.b p'.bs p'.pl :: DrB p'.d p'.bs p'.pl :: Prs (l.eraseIdx i) :: L) (Prs (l.set i p') :: L) := by
  exact prs_in (set_perm l i p p' h)
theorem prs_new {l : List Pr} {p : Pr} {L : List HP} : Ent (RdB p.b p.bs p.pl :: DrB p.d p.bs p.pl :: Prs l :: L) (Prs (l ++ [p]) :: L) := prs_in (List.perm_append_comm (l₁ := l) (l₂ := [p]))
theorem prs_nil {L : List HP} : Ent L (Prs [] :: L) := fun _ _ hs => (hs.add trivial).swap
theorem prs_start {l l' : List Pr} {b d : Nat} {s : List UInt8} {L : List HP} (hs : s.length ≤ 1000000) (he : l' = l ++ [⟨b, d, s, 0⟩]) : Ent (Dr d s 0 0 :: RdB b s 0 :: Prs l :: L) (Prs l' :: L) := he ▸
  (drb_close (k := 0) (bg := 0) rfl (Nat.zero_le _) (by rw [List.drop_zero]) rfl (Int.le_refl 0) (by omega)).trans (ent_perm2.trans (prs_new (p := ⟨b, d, s, 0⟩)))
def HasP (l : List Pr) (b d : Nat) : Prop := ∃ (i : Nat) (p : Pr), l[i]? = some p ∧ p.b = b ∧ p.d = d
theorem HasP.set {l : List Pr} {b d j : Nat} {q q' : Pr} (h : HasP l b d) (hq : l[j]? = some q) (h1 : q'.b = q.b) (h2 : q'.d = q.d) : HasP (l.set j q') b d := by
  obtain ⟨i, p, hp, rfl, rfl⟩ := h
  by_cases hij : j = i
  · subst hij
    rw [hp] at hq
    cases hq
    exact ⟨j, q', by rw [List.getElem?_set_self (List.getElem?_eq_some_iff.1 hp).1], h1, h2⟩
  · exact ⟨i, p, by rw [List.getElem?_set_ne hij]; exact hp, rfl, rfl⟩
theorem HasP.app {l : List Pr} {b d : Nat} (h : HasP l b d) (p : Pr) : HasP (l ++ [p]) b d := by
  obtain ⟨i, q, hq, h1⟩ := h
  exact ⟨i, q, by rw [List.getElem?_append_left (List.getElem?_eq_some_iff.1 hq).1]; exact hq, h1⟩
def OkP (p : Pr) : Prop := 0 ≤ p.pl ∧ p.pl + p.bs.length ≤ 1000000
structure St where
  l : List Pr
  i : Nat
  fb : Nat
  fd : Nat
  lb : Nat
  ld : Nat
  cb : Nat
  cd : Nat
structure InvS (n : Nat) (y : St) : Prop where
  hi : y.i ≤ n
  hf : HasP y.l y.fb y.fd
  hl : HasP y.l y.lb y.ld
  hc : HasP y.l y.cb y.cd
  ok : ∀ p ∈ y.l, OkP p
theorem InvS.set {n : Nat} {y : St} (h : InvS n y) {j : Nat} {q q' : Pr} (hq : y.l[j]? = some q) (h1 : q'.b = q.b) (h2 : q'.d = q.d) (hk : OkP q') : InvS n { y with l := y.l.set j q' } :=
  ⟨h.hi, h.hf.set hq h1 h2, h.hl.set hq h1 h2, h.hc.set hq h1 h2, fun p hp => by
    rcases List.mem_or_eq_of_mem_set hp with hp | rfl
    · exact h.ok p hp
    · exact hk⟩
theorem ok_byte {bs : List UInt8} {pl : Int} (h : 0 ≤ pl ∧ pl + bs.length ≤ 1000000) : 0 ≤ (byteR bs pl).2 ∧ (byteR bs pl).2 + (byteR bs pl).1.length ≤ 1000000 := by
  cases bs with
  | nil => exact h
  | cons x r => simp only [byteR, List.length_cons] at h ⊢; omega
theorem ok_take {bs : List UInt8} {pl n : Int} (h : 0 ≤ pl ∧ pl + bs.length ≤ 1000000) : 0 ≤ (takeR bs pl n).2 ∧ (takeR bs pl n).2 + (takeR bs pl n).1.length ≤ 1000000 := by
  unfold takeR
  split
  · exact h
  · split
    · exact h
    · simp only [List.length_drop]; omega
end Go.Proofs.YtejhdhmopiahhaaDoor
