/- Layer 1: an error by its fault; the reader's and the document's answers, each by one contract. -/
import Derived.Test.YtejhdhmopiahhaaDoorO16
namespace Go.Proofs.YtejhdhmopiahhaaDoor
open Go Go.Sp
/-- What tells a fault, or none. -/
def Er (v : Value) (c a : Int) : HP := fun h => (c = 0 ∧ a = 0 ∧ v = .nilIface) ∨ (c ≠ 0 ∧ ∃ q : Nat, v = faultI q ∧ Ft q c a h)
theorem ct_er {f : FuncId} {args : Array Value} {v : Value} {c a : Int} {M : List HP} {R : Ending → List HP → Prop} (h0 : c = 0 → a = 0 → v = .nilIface → Ct Tryd.prog f args M R) (h1 : ∀ q, c ≠ 0 → v = faultI q → Ct Tryd.prog f args (Ft q c a :: M) R) : Ct Tryd.prog f args (Er v c a :: M) R := fun F w hs => by
  obtain ⟨k, ⟨a1, b1, c1, d1, e1, f1, g1⟩, m⟩ := hs.swap
  rcases f1 with ⟨h2, h3, h4⟩ | ⟨h2, q, h3, h4⟩
  · exact h0 h2 h3 h4 F w ⟨k, g1.le e1, m⟩
  · exact h1 q h2 h3 F w (Sat.swap ⟨k, ⟨a1, b1, c1, d1, e1, h4, g1⟩, m⟩)
theorem er_none {L : List HP} : Ent L (Er .nilIface 0 0 :: L) := fun _ _ hs => (hs.add (.inl ⟨rfl, rfl, rfl⟩)).swap
theorem er_some {q : Nat} {c a : Int} {L : List HP} (hc : c ≠ 0) : Ent (Ft q c a :: L) (Er (faultI q) c a :: L) := fun _ _ hs => (hs.swap.conv fun _ hk => .inr ⟨hc, q, rfl, hk⟩).swap
theorem told_E (v : Value) (c a : Int) (te : TypeId) (fz : Nat × Nat) : Ct Tryd.prog 16 #[v, faultV c a] [Er v c a, Gl te fz] (RetV (.bool true) [Gl te fz]) :=
  ct_er (fun h1 h2 h3 => by
    subst h1; subst h2; subst h3
    exact Ct.post (told_none.frame [Gl te fz]) fun _ _ ⟨_, ⟨he, hL⟩, hL'⟩ => ⟨_, Ent.refl _, he, by rw [hL', hL]; rfl⟩) (fun q h1 h2 => by subst h2; exact told_faultK q c a h1 te fz)
theorem ent_perm2 {A B : HP} {L : List HP} : Ent (A :: B :: L) (B :: A :: L) := fun F _ hs => hs.perm ((List.Perm.swap _ _ _).cons F)
/-- The answers. -/
def byteA (bs : List UInt8) (pl : Int) : UInt8 × Int × Int := match bs with | [] => (0, 3, pl) | x :: _ => (x, 0, 0)
def byteR (bs : List UInt8) (pl : Int) : List UInt8 × Int := match bs with | [] => ([], pl) | _ :: r => (r, pl + 1)
def takeA (bs : List UInt8) (pl n : Int) : List UInt8 × Int × Int := if n < 0 then ([], 2, pl) else if (bs.length : Int) < n then ([], 3, pl) else (bs.take n.toNat, 0, 0)
def takeR (bs : List UInt8) (pl n : Int) : List UInt8 × Int := if n < 0 then (bs, pl) else if (bs.length : Int) < n then (bs, pl) else (bs.drop n.toNat, pl + n)
def endA (bs : List UInt8) (pl : Int) : Int × Int := if bs.length = 0 then (0, 0) else (4, pl)
theorem byte_E (b : Nat) (bs : List UInt8) (pl : Int) (hpl : 0 ≤ pl ∧ pl + 1 ≤ 9223372036854775807) :
    Ct Tryd.prog 14 #[ptr b] [RdB b bs pl] (RetE (fun _ : Value => True) (fun v => .tuple #[.int .u8 (((byteA bs pl).1.toNat : Nat) : Int), v]) (fun v => [Er v (byteA bs pl).2.1 (byteA bs pl).2.2, RdB b (byteR bs pl).1 (byteR bs pl).2])) := by
  cases bs with
  | nil => exact Ct.post (byte_shortB b pl) fun _ _ ⟨q, he, hL⟩ => ⟨_, by rw [hL]; exact er_some (by decide), faultI q, trivial, he, rfl⟩
  | cons x r => exact Ct.post (byte_B b x r pl hpl) fun _ _ ⟨he, hL⟩ => ⟨_, by rw [hL]; exact er_none, .nilIface, trivial, he, rfl⟩
theorem take_E (b : Nat) (bs : List UInt8) (pl n : Int) (hpl : 0 ≤ pl ∧ pl + bs.length ≤ 9223372036854775807) :
    Ct Tryd.prog 17 #[ptr b, .int .i64 n] [RdB b bs pl] (RetE (fun _ : Value => True) (fun v => .tuple #[str (takeA bs pl n).1, v]) (fun v => [Er v (takeA bs pl n).2.1 (takeA bs pl n).2.2, RdB b (takeR bs pl n).1 (takeR bs pl n).2])) := by
  unfold takeA takeR
  by_cases h1 : n < 0
  · simp only [h1, if_true]
    exact Ct.post (take_negB b bs pl n h1) fun _ _ ⟨q, he, hL⟩ => ⟨_, by rw [hL]; exact er_some (by decide), faultI q, trivial, he, rfl⟩
  · by_cases h2 : (bs.length : Int) < n
    · simp only [h1, h2, if_true, if_false]
      exact Ct.post (take_shortB b bs pl n h2) fun _ _ ⟨q, he, hL⟩ => ⟨_, by rw [hL]; exact er_some (by decide), faultI q, trivial, he, rfl⟩
    · simp only [h1, h2, if_false]
      obtain ⟨m, rfl⟩ : ∃ m : Nat, n = (m : Int) := ⟨n.toNat, by omega⟩
      rw [Int.toNat_natCast]
      exact Ct.post (take_B b bs pl m (by omega) (by omega)) fun _ _ ⟨he, hL⟩ => ⟨_, by rw [hL]; exact er_none, .nilIface, trivial, he, rfl⟩
theorem end_E (b : Nat) (bs : List UInt8) (pl : Int) : Ct Tryd.prog 25 #[ptr b] [RdB b bs pl] (RetE (fun _ : Value => True) (fun v => v) (fun v => [Er v (endA bs pl).1 (endA bs pl).2, RdB b bs pl])) := by
  cases bs with
  | nil => exact Ct.post (end_okB b pl) fun _ _ ⟨he, hL⟩ => ⟨_, by rw [hL]; exact er_none, .nilIface, trivial, he, rfl⟩
  | cons x r => exact Ct.post (end_longB b (x :: r) pl (by simp)) fun _ _ ⟨q, he, hL⟩ => ⟨_, by rw [hL]; exact er_some (show (4 : Int) ≠ 0 by decide), faultI q, trivial, he, rfl⟩
theorem part_bad (b : Nat) (bs : List UInt8) (pl n : Int) (h : (takeA bs pl n).2.1 ≠ 0) : Ct Tryd.prog 19 #[ptr b, .int .i64 n] [RdB b bs pl] (RetE (fun _ : Value => True) (fun v => .tuple #[.pointer none, v]) (fun v => [Er v (takeA bs pl n).2.1 (takeA bs pl n).2.2, RdB b bs pl])) := by
  unfold takeA at h ⊢
  by_cases h1 : n < 0
  · simp only [h1, if_true]
    exact Ct.post (part_negB b bs pl n h1) fun _ _ ⟨q, he, hL⟩ => ⟨_, by rw [hL]; exact er_some (by decide), faultI q, trivial, he, rfl⟩
  · by_cases h2 : (bs.length : Int) < n
    · simp only [h1, h2, if_true, if_false]
      exact Ct.post (part_shortB b bs pl n h2) fun _ _ ⟨q, he, hL⟩ => ⟨_, by rw [hL]; exact er_some (by decide), faultI q, trivial, he, rfl⟩
    · simp [h1, h2] at h
/-- The document's reader by its bytes. -/
def DrB (d : Nat) (bs : List UInt8) (pl : Int) : HP := fun h => ∃ x : List UInt8 × Nat × Int, (x.2.1 ≤ x.1.length ∧ bs = x.1.drop x.2.1 ∧ pl = x.2.2 + x.2.1 ∧ 0 ≤ x.2.2 ∧ x.2.2 + x.1.length ≤ 1000000) ∧ Dr d x.1 x.2.1 x.2.2 h
theorem ct_drb {f : FuncId} {args : Array Value} {d : Nat} {bs : List UInt8} {pl : Int} {R : Ending → List HP → Prop}
    (h : ∀ (s : List UInt8) (k : Nat) (bg : Int), k ≤ s.length → bs = s.drop k → pl = bg + k → 0 ≤ bg → bg + s.length ≤ 1000000 → Ct Tryd.prog f args [Dr d s k bg] R) : Ct Tryd.prog f args [DrB d bs pl] R := fun F w hs => by
  obtain ⟨k, ⟨a1, b1, c1, d1, e1, ⟨⟨s, i, bg⟩, ⟨h1, h2, h3, h4, h5⟩, h6⟩, g1⟩, m⟩ := hs.swap
  exact h s i bg h1 h2 h3 h4 h5 F w (Sat.swap ⟨k, ⟨a1, b1, c1, d1, e1, h6, g1⟩, m⟩)
theorem drb_close {d : Nat} {bs : List UInt8} {pl : Int} {L : List HP} {s : List UInt8} {k : Nat} {bg at_ : Int} (h0 : at_ = k) (h1 : k ≤ s.length) (h2 : bs = s.drop k) (h3 : pl = bg + k) (h4 : 0 ≤ bg) (h5 : bg + s.length ≤ 1000000) : Ent (Dr d s at_ bg :: L) (DrB d bs pl :: L) := fun _ _ hs => by
  subst h0
  exact (hs.swap.conv fun _ hk => ⟨(s, k, bg), ⟨h1, h2, h3, h4, h5⟩, hk⟩).swap
theorem dplace_B (d : Nat) (bs : List UInt8) (pl : Int) : Ct Tryd.prog 22 #[ptr d] [DrB d bs pl] (RetV (.int .i64 pl) [DrB d bs pl]) :=
  ct_drb fun s k bg h1 h2 h3 h4 h5 => by
    subst h3
    exact Ct.post (dplace_c d s k bg (by omega)) fun _ _ ⟨he, hL⟩ => ⟨_, by rw [hL]; exact drb_close rfl h1 h2 rfl h4 h5, he, rfl⟩
theorem dleft_B (d : Nat) (bs : List UInt8) (pl : Int) : Ct Tryd.prog 24 #[ptr d] [DrB d bs pl] (RetV (.int .i64 (bs.length : Int)) [DrB d bs pl]) :=
  ct_drb fun s k bg h1 h2 h3 h4 h5 => by
    have e : (bs.length : Int) = (s.length : Int) - k := by rw [h2, List.length_drop]; omega
    rw [e]
    exact Ct.post (dleft_c d s k bg (by omega)) fun _ _ ⟨he, hL⟩ => ⟨_, by rw [hL]; exact drb_close rfl h1 h2 h3 h4 h5, he, rfl⟩
theorem dend_B (d : Nat) (bs : List UInt8) (pl : Int) : Ct Tryd.prog 26 #[ptr d] [DrB d bs pl] (RetV (faultV (endA bs pl).1 (endA bs pl).2) [DrB d bs pl]) :=
  ct_drb fun s k bg h1 h2 h3 h4 h5 => by
    have e : (bs.length : Int) = (s.length : Int) - k := by rw [h2, List.length_drop]; omega
    unfold endA
    by_cases h0 : bs.length = 0
    · simp only [h0, if_true]
      exact Ct.post (dend_ok d s k bg (by omega) (by omega)) fun _ _ ⟨he, hL⟩ => ⟨_, by rw [hL]; exact drb_close rfl h1 h2 h3 h4 h5, he, rfl⟩
    · simp only [h0, if_false]
      subst h3
      exact Ct.post (dend_long d s k bg (by omega) (by omega) (by omega)) fun _ _ ⟨he, hL⟩ => ⟨_, by rw [hL]; exact drb_close rfl h1 h2 rfl h4 h5, he, rfl⟩
theorem dbyte_B (d : Nat) (bs : List UInt8) (pl : Int) : Ct Tryd.prog 15 #[ptr d] [DrB d bs pl] (RetV (.tuple #[.int .u8 (((byteA bs pl).1.toNat : Nat) : Int), faultV (byteA bs pl).2.1 (byteA bs pl).2.2]) [DrB d (byteR bs pl).1 (byteR bs pl).2]) :=
  ct_drb fun s k bg h1 h2 h3 h4 h5 => by
    have e : (bs.length : Int) = (s.length : Int) - k := by rw [h2, List.length_drop]; omega
    subst h3
    cases bs with
    | nil =>
      simp only [List.length_nil] at e
      exact Ct.post (dbyte_short d s k bg (by omega) (by omega) (by omega)) fun _ _ ⟨he, hL⟩ => ⟨_, by rw [hL]; exact drb_close rfl h1 h2 rfl h4 h5, he, rfl⟩
    | cons x r =>
      simp only [List.length_cons] at e
      have h6 : s[k]? = some x := by
        have := congrArg (·[0]?) h2
        simpa using this.symm
      have h7 : r = s.drop (k + 1) := by
        have := congrArg List.tail h2
        simpa [List.tail_drop] using this
      exact Ct.post (dbyte_ok d s k bg x (by omega) h6) fun _ _ ⟨he, hL⟩ => ⟨_, by rw [hL]; exact drb_close rfl (by omega) h7 (by show bg + (k : Int) + 1 = bg + ((k + 1 : Nat) : Int); omega) h4 h5, he, rfl⟩
theorem dtake_B (d : Nat) (bs : List UInt8) (pl n : Int) : Ct Tryd.prog 18 #[ptr d, .int .i64 n] [DrB d bs pl] (RetV (.tuple #[str (takeA bs pl n).1, faultV (takeA bs pl n).2.1 (takeA bs pl n).2.2]) [DrB d (takeR bs pl n).1 (takeR bs pl n).2]) :=
  ct_drb fun s k bg h1 h2 h3 h4 h5 => by
    have e : (bs.length : Int) = (s.length : Int) - k := by rw [h2, List.length_drop]; omega
    subst h3
    unfold takeA takeR
    by_cases hn : n < 0
    · simp only [hn, if_true]
      exact Ct.post (dtake_neg d s k bg n (by omega) hn) fun _ _ ⟨he, hL⟩ => ⟨_, by rw [hL]; exact drb_close rfl h1 h2 rfl h4 h5, he, rfl⟩
    · by_cases hm : (bs.length : Int) < n
      · simp only [hn, hm, if_true, if_false]
        exact Ct.post (dtake_short d s k bg n (by omega) (by omega) (by omega) (by omega)) fun _ _ ⟨he, hL⟩ => ⟨_, by rw [hL]; exact drb_close rfl h1 h2 rfl h4 h5, he, rfl⟩
      · simp only [hn, hm, if_false]
        obtain ⟨m, rfl⟩ : ∃ m : Nat, n = (m : Int) := ⟨n.toNat, by omega⟩
        rw [Int.toNat_natCast]
        have e2 : bs.take m = (s.take (k + m)).drop k := by rw [h2, List.drop_take]; congr 1; omega
        rw [e2]
        exact Ct.post (dtake_ok d s k bg m h1 (by omega) (by omega)) fun _ _ ⟨he, hL⟩ => ⟨_, by rw [hL]; exact drb_close (k := k + m) rfl (by omega) (by rw [h2, List.drop_drop]) (by omega) h4 h5, he, rfl⟩
theorem dpart_bad (d : Nat) (bs : List UInt8) (pl n : Int) (h : (takeA bs pl n).2.1 ≠ 0) : Ct Tryd.prog 20 #[ptr d, .int .i64 n] [DrB d bs pl] (RetV (.tuple #[.pointer none, faultV (takeA bs pl n).2.1 (takeA bs pl n).2.2]) [DrB d bs pl]) :=
  ct_drb fun s k bg h1 h2 h3 h4 h5 => by
    have e : (bs.length : Int) = (s.length : Int) - k := by rw [h2, List.length_drop]; omega
    subst h3
    unfold takeA at h ⊢
    by_cases hn : n < 0
    · simp only [hn, if_true]
      exact Ct.post (dpart_fails d s k bg n 2 (by omega) (by decide) (dtake_neg d s k bg n (by omega) hn)) fun _ _ ⟨he, hL⟩ => ⟨_, by rw [hL]; exact drb_close rfl h1 h2 rfl h4 h5, he, rfl⟩
    · by_cases hm : (bs.length : Int) < n
      · simp only [hn, hm, if_true, if_false]
        exact Ct.post (dpart_fails d s k bg n 3 (by omega) (by decide) (dtake_short d s k bg n (by omega) (by omega) (by omega) (by omega))) fun _ _ ⟨he, hL⟩ => ⟨_, by rw [hL]; exact drb_close rfl h1 h2 rfl h4 h5, he, rfl⟩
      · simp [hn, hm] at h
theorem dpart_B (d : Nat) (bs : List UInt8) (pl : Int) (n : Nat) (hn : n ≤ bs.length) : Ct Tryd.prog 20 #[ptr d, .int .i64 (n : Int)] [DrB d bs pl] (RetE (fun _ : Nat => True) (fun q => .tuple #[ptr q, faultV 0 0]) (fun q => [DrB d (bs.drop n) (pl + n), DrB q (bs.take n) pl])) :=
  ct_drb fun s k bg h1 h2 h3 h4 h5 => by
    have e : bs.length = s.length - k := by rw [h2, List.length_drop]
    subst h3
    have e2 : bs.take n = (s.take (k + n)).drop k := by rw [h2, List.drop_take]; congr 1; omega
    have e3 : ((s.take (k + n)).drop k).length = n := by rw [List.length_drop, List.length_take]; omega
    rw [e2]
    exact Ct.post (dpart_ok d s k bg n h1 (by omega) (by omega) (by omega)) fun _ _ ⟨q, _, he, hL⟩ => ⟨_, by
      rw [hL]
      refine (drb_close (k := k + n) rfl (by omega) (by rw [h2, List.drop_drop]) (by omega) h4 h5).trans (ent_perm2.trans ((drb_close (k := 0) rfl (by omega) (by rw [List.drop_zero]) (by omega) (by omega) (by rw [e3]; omega)).trans ent_perm2)), q, trivial, he, rfl⟩
end Go.Proofs.YtejhdhmopiahhaaDoor
