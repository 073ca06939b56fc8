/- Layer 1: octets: a reader by its bytes alone. -/
import Derived.Test.YtejhdhmopiahhaaDoorO13
namespace Go.Proofs.YtejhdhmopiahhaaDoor
open Go Go.Sp
/-- A reader of the bytes bs, at the place pl. -/
def RdB (b : Nat) (bs : List UInt8) (pl : Int) : HP := fun h => ∃ x : Option Addr × Nat, bs.length ≤ x.2 ∧ Star [Rd b (.slice x.1 bs.length x.2) pl, Vw 1 (.slice x.1 bs.length x.2) bs.length (by8 bs)] h
theorem rdb_open {b : Nat} {bs : List UInt8} {pl : Int} {w : World} {L : List HP} (h : Sat w (RdB b bs pl :: L)) : ∃ p cap, bs.length ≤ cap ∧ Sat w (Rd b (.slice p bs.length cap) pl :: Vw 1 (.slice p bs.length cap) bs.length (by8 bs) :: L) := by
  obtain ⟨⟨p, cap⟩, h1⟩ := h.outE (α := Option Addr × Nat) (B := fun x k => bs.length ≤ x.2 ∧ Star [Rd b (.slice x.1 bs.length x.2) pl, Vw 1 (.slice x.1 bs.length x.2) bs.length (by8 bs)] k) (fun k ⟨x, hx⟩ => ⟨x, hx⟩)
  have h2 : bs.length ≤ cap := h1.out fun k hk => hk.1
  have h3 := h1.conv fun k hk => hk.2
  exact ⟨p, cap, h2, (Sat.fold (L1 := [Rd b (.slice p bs.length cap) pl, Vw 1 (.slice p bs.length cap) bs.length (by8 bs)])).2 h3⟩
theorem rdb_close {b : Nat} {bs : List UInt8} {pl : Int} {w : World} {L : List HP} {p : Option Addr} {cap : Nat} (hc : bs.length ≤ cap) (h : Sat w (Rd b (.slice p bs.length cap) pl :: Vw 1 (.slice p bs.length cap) bs.length (by8 bs) :: L)) : Sat w (RdB b bs pl :: L) :=
  ((Sat.fold (L1 := [Rd b (.slice p bs.length cap) pl, Vw 1 (.slice p bs.length cap) bs.length (by8 bs)])).1 h).conv fun k hk => ⟨(p, cap), hc, hk⟩
/-- A contract of a reader, by its bytes. -/
theorem ct_rdb {f : FuncId} {args : Array Value} {b : Nat} {bs : List UInt8} {pl : Int} {R : Ending → List HP → Prop}
    (h : ∀ p cap, bs.length ≤ cap → Ct Tryd.prog f args [Rd b (.slice p bs.length cap) pl, Vw 1 (.slice p bs.length cap) bs.length (by8 bs)] R) : Ct Tryd.prog f args [RdB b bs pl] R := fun F w hs => by
  obtain ⟨p, cap, hc, h1⟩ := rdb_open hs.swap
  refine h p cap hc F w (h1.perm ?_)
  exact (List.Perm.cons _ (List.Perm.swap _ _ _)).trans (List.Perm.swap _ _ _)
theorem Ct.post {f : FuncId} {args : Array Value} {L : List HP} {R R' : Ending → List HP → Prop} (h : Ct Tryd.prog f args L R) (hr : ∀ e L', R e L' → ∃ L'', Ent L' L'' ∧ R' e L'') : Ct Tryd.prog f args L R' := fun F w hs =>
  (h F w hs).mono fun _ w' ⟨hne, L', r, s⟩ => let ⟨L'', he, r'⟩ := hr _ _ r; ⟨hne, L'', r', he F w' s⟩
theorem rdb_tail {b : Nat} {bs : List UInt8} {pl : Int} {p : Option Addr} {cap n : Nat} (hn : n ≤ bs.length) (hc : bs.length ≤ cap) : Ent [Rd b (.slice (tailP p cap n) (bs.length - n) (cap - n)) pl, Vw 1 (.slice p bs.length cap) bs.length (by8 bs)] [RdB b (bs.drop n) pl] := fun F w hs => by
  have e1 : (bs.drop n).length = bs.length - n := List.length_drop
  have h1 : Sat w (Vw 1 (.slice p bs.length cap) bs.length (by8 bs) :: Rd b (.slice (tailP p cap n) (bs.length - n) (cap - n)) pl :: [F]) := hs.perm ((List.Perm.cons _ (List.Perm.swap _ _ _)).trans ((List.Perm.swap _ _ _).trans (List.Perm.cons _ (List.Perm.swap _ _ _))))
  have h2 := h1.conv fun k hk => vw_drop (c := cap - n) hn hc k hk
  rw [by8_drop, ← e1] at h2
  exact (rdb_close (bs := bs.drop n) (by rw [e1]; omega) h2.swap).swap
theorem rdb_same {b : Nat} {bs : List UInt8} {pl : Int} {p : Option Addr} {cap : Nat} (hc : bs.length ≤ cap) : Ent [Rd b (.slice p bs.length cap) pl, Vw 1 (.slice p bs.length cap) bs.length (by8 bs)] [RdB b bs pl] := fun F w hs =>
  (rdb_close hc (hs.perm ((List.Perm.swap _ _ _).trans (List.Perm.cons _ (List.Perm.swap _ _ _))))).swap
theorem keepV {b : Nat} {bs : List UInt8} {pl : Int} {p : Option Addr} {cap : Nat} : Ent [Rd b (.slice p bs.length cap) pl, Vw 1 (.slice p bs.length cap) bs.length (by8 bs)] ([Rd b (.slice p bs.length cap) pl, Vw 1 (.slice p bs.length cap) bs.length (by8 bs)] ++ [Vw 1 (.slice p bs.length cap) bs.length (by8 bs)]) :=
  (Ent.dup (Vw 1 (.slice p bs.length cap) bs.length (by8 bs))).trans (Ent.sel (K := [Rd b (.slice p bs.length cap) pl, Vw 1 (.slice p bs.length cap) bs.length (by8 bs), Vw 1 (.slice p bs.length cap) bs.length (by8 bs)]))
theorem take_B (b : Nat) (bs : List UInt8) (pl : Int) (n : Nat) (hn : n ≤ bs.length) (hpl : 0 ≤ pl ∧ pl + n ≤ 9223372036854775807) :
    Ct Tryd.prog 17 #[ptr b, .int .i64 (n : Int)] [RdB b bs pl] (RetV (.tuple #[str (bs.take n), .nilIface]) [RdB b (bs.drop n) (pl + n)]) :=
  ct_rdb fun p cap hc => Ct.post (Ct.heap keepV ((take_ok b p cap pl n bs hn hc hpl).frame [Vw 1 (.slice p bs.length cap) bs.length (by8 bs)])) fun _ _ ⟨_, ⟨he, hL⟩, hL'⟩ => ⟨_, by rw [hL', hL]; exact rdb_tail hn hc, he, rfl⟩
theorem byte_B (b : Nat) (x : UInt8) (bs : List UInt8) (pl : Int) (hpl : 0 ≤ pl ∧ pl + 1 ≤ 9223372036854775807) :
    Ct Tryd.prog 14 #[ptr b] [RdB b (x :: bs) pl] (RetV (.tuple #[.int .u8 ((x.toNat : Nat) : Int), .nilIface]) [RdB b bs (pl + 1)]) :=
  ct_rdb fun p cap hc => Ct.post (Ct.heap keepV ((byte_ok b p cap pl x bs hc hpl).frame [Vw 1 (.slice p (x :: bs).length cap) (x :: bs).length (by8 (x :: bs))])) fun _ _ ⟨_, ⟨he, hL⟩, hL'⟩ => ⟨_, by rw [hL', hL]; exact rdb_tail (bs := x :: bs) (n := 1) (by simp) hc, he, rfl⟩
theorem place_B (b : Nat) (bs : List UInt8) (pl : Int) : Ct Tryd.prog 21 #[ptr b] [RdB b bs pl] (RetV (.int .i64 pl) [RdB b bs pl]) :=
  ct_rdb fun p cap hc => Ct.post ((place_c b (.slice p bs.length cap) pl).frame [Vw 1 (.slice p bs.length cap) bs.length (by8 bs)]) fun _ _ ⟨_, ⟨he, hL⟩, hL'⟩ => ⟨_, by rw [hL', hL]; exact rdb_same hc, he, rfl⟩
theorem left_B (b : Nat) (bs : List UInt8) (pl : Int) : Ct Tryd.prog 23 #[ptr b] [RdB b bs pl] (RetV (.int .i64 (bs.length : Int)) [RdB b bs pl]) :=
  ct_rdb fun p cap hc => Ct.post ((left_c b p bs.length cap pl).frame [Vw 1 (.slice p bs.length cap) bs.length (by8 bs)]) fun _ _ ⟨_, ⟨he, hL⟩, hL'⟩ => ⟨_, by rw [hL', hL]; exact rdb_same hc, he, rfl⟩
theorem take_negB (b : Nat) (bs : List UInt8) (pl n : Int) (h : n < 0) : Ct Tryd.prog 17 #[ptr b, .int .i64 n] [RdB b bs pl] (FailsV (.string ⟨#[]⟩) 2 pl [RdB b bs pl]) :=
  ct_rdb fun p cap hc => Ct.post ((take_neg b (.slice p bs.length cap) pl n h).frame [Vw 1 (.slice p bs.length cap) bs.length (by8 bs)]) fun _ _ ⟨_, ⟨q, he, hL⟩, hL'⟩ => ⟨_, by rw [hL', hL]; exact Ent.keep (rdb_same hc), q, he, rfl⟩
theorem take_shortB (b : Nat) (bs : List UInt8) (pl n : Int) (h : (bs.length : Int) < n) : Ct Tryd.prog 17 #[ptr b, .int .i64 n] [RdB b bs pl] (FailsV (.string ⟨#[]⟩) 3 pl [RdB b bs pl]) :=
  ct_rdb fun p cap hc => Ct.post ((take_short b p bs.length cap pl n h).frame [Vw 1 (.slice p bs.length cap) bs.length (by8 bs)]) fun _ _ ⟨_, ⟨q, he, hL⟩, hL'⟩ => ⟨_, by rw [hL', hL]; exact Ent.keep (rdb_same hc), q, he, rfl⟩
theorem byte_shortB (b : Nat) (pl : Int) : Ct Tryd.prog 14 #[ptr b] [RdB b [] pl] (FailsV (.int .u8 0) 3 pl [RdB b [] pl]) :=
  ct_rdb fun p cap hc => Ct.post ((byte_short b p cap pl).frame [Vw 1 (.slice p ([] : List UInt8).length cap) ([] : List UInt8).length (by8 [])]) fun _ _ ⟨_, ⟨q, he, hL⟩, hL'⟩ => ⟨_, by rw [hL', hL]; exact Ent.keep (rdb_same hc), q, he, rfl⟩
theorem end_longB (b : Nat) (bs : List UInt8) (pl : Int) (h : 0 < bs.length) : Ct Tryd.prog 25 #[ptr b] [RdB b bs pl] (FailsE 4 pl [RdB b bs pl]) :=
  ct_rdb fun p cap hc => Ct.post ((end_long b p bs.length cap pl h).frame [Vw 1 (.slice p bs.length cap) bs.length (by8 bs)]) fun _ _ ⟨_, ⟨q, he, hL⟩, hL'⟩ => ⟨_, by rw [hL', hL]; exact Ent.keep (rdb_same hc), q, he, rfl⟩
theorem end_okB (b : Nat) (pl : Int) : Ct Tryd.prog 25 #[ptr b] [RdB b [] pl] (RetV .nilIface [RdB b [] pl]) :=
  ct_rdb fun p cap hc => Ct.post ((end_ok b p cap pl).frame [Vw 1 (.slice p ([] : List UInt8).length cap) ([] : List UInt8).length (by8 [])]) fun _ _ ⟨_, ⟨he, hL⟩, hL'⟩ => ⟨_, by rw [hL', hL]; exact rdb_same hc, he, rfl⟩
theorem newreader_B (bs : List UInt8) (hn : bs.length ≤ maxLen) : Ct Tryd.prog 13 #[str bs] [] (RetE (fun _ : Nat => True) ptr (fun q => [RdB q bs 0])) :=
  Ct.post (newreader_c bs hn) fun _ _ ⟨x, hx, he, hL⟩ => ⟨_, by rw [hL]; exact rdb_same hx, x.1, trivial, he, rfl⟩
theorem rdb_part {b q : Nat} {bs : List UInt8} {pl pl' : Int} {p : Option Addr} {cap n : Nat} (hn : n ≤ bs.length) (hc : bs.length ≤ cap) :
    Ent [Rd b (.slice (tailP p cap n) (bs.length - n) (cap - n)) pl', Rd q (.slice p n n) pl, Vw 1 (.slice p bs.length cap) bs.length (by8 bs)] [RdB b (bs.drop n) pl', RdB q (bs.take n) pl] := fun F w hs => by
  have e1 : (bs.take n).length = n := by rw [List.length_take]; omega
  have h1 : Sat w ([F, Rd q (.slice p n n) pl, Vw 1 (.slice p n n) n (by8 (bs.take n)), Rd b (.slice (tailP p cap n) (bs.length - n) (cap - n)) pl', Vw 1 (.slice p bs.length cap) bs.length (by8 bs)]) :=
    ((ent_cut (p := p) (n := bs.length) (m := n) (cap := cap) (c := n) (bs := bs) hn).trans (Ent.sel (K := [Rd q (.slice p n n) pl, Vw 1 (.slice p n n) n (by8 (bs.take n)), Rd b (.slice (tailP p cap n) (bs.length - n) (cap - n)) pl', Vw 1 (.slice p bs.length cap) bs.length (by8 bs)]))) F w hs
  have h2 := Ent.keep (A := Vw 1 (.slice p n n) n (by8 (bs.take n))) (rdb_tail (b := b) (pl := pl') (p := p) hn hc)
  have h3 := Ent.keep (A := Rd q (.slice p n n) pl) h2 F w h1
  have h4 : Sat w (Rd q (.slice p n n) pl :: Vw 1 (.slice p n n) n (by8 (bs.take n)) :: [F, RdB b (bs.drop n) pl']) := h3.perm ((List.Perm.swap _ _ _).trans (List.Perm.cons _ (List.Perm.swap _ _ _)))
  have h5 : Sat w (RdB q (bs.take n) pl :: [F, RdB b (bs.drop n) pl']) := rdb_close (p := p) (cap := n) (by rw [e1]; exact Nat.le_refl n) (by rw [e1]; exact h4)
  exact h5.perm ((List.Perm.swap _ _ _).trans (List.Perm.cons _ (List.Perm.swap _ _ _)))
theorem part_B (b : Nat) (bs : List UInt8) (pl : Int) (n : Nat) (hn : n ≤ bs.length) (hpl : 0 ≤ pl ∧ pl + n ≤ 9223372036854775807) :
    Ct Tryd.prog 19 #[ptr b, .int .i64 (n : Int)] [RdB b bs pl] (RetE (fun _ : Nat => True) (fun q => .tuple #[ptr q, .nilIface]) (fun q => [RdB b (bs.drop n) (pl + n), RdB q (bs.take n) pl])) :=
  ct_rdb fun p cap hc => Ct.post ((part_ok b p bs.length cap pl n hn hc hpl).frame [Vw 1 (.slice p bs.length cap) bs.length (by8 bs)]) fun _ _ ⟨_, ⟨q, hq, he, hL⟩, hL'⟩ => ⟨_, by rw [hL', hL]; exact rdb_part hn hc, q, hq, he, rfl⟩
theorem part_negB (b : Nat) (bs : List UInt8) (pl n : Int) (h : n < 0) : Ct Tryd.prog 19 #[ptr b, .int .i64 n] [RdB b bs pl] (FailsV (.pointer none) 2 pl [RdB b bs pl]) :=
  ct_rdb fun p cap hc => Ct.post ((part_neg b (.slice p bs.length cap) pl n h).frame [Vw 1 (.slice p bs.length cap) bs.length (by8 bs)]) fun _ _ ⟨_, ⟨q, he, hL⟩, hL'⟩ => ⟨_, by rw [hL', hL]; exact Ent.keep (rdb_same hc), q, he, rfl⟩
theorem part_shortB (b : Nat) (bs : List UInt8) (pl n : Int) (h : (bs.length : Int) < n) : Ct Tryd.prog 19 #[ptr b, .int .i64 n] [RdB b bs pl] (FailsV (.pointer none) 3 pl [RdB b bs pl]) :=
  ct_rdb fun p cap hc => Ct.post ((part_short b p bs.length cap pl n h).frame [Vw 1 (.slice p bs.length cap) bs.length (by8 bs)]) fun _ _ ⟨_, ⟨q, he, hL⟩, hL'⟩ => ⟨_, by rw [hL', hL]; exact Ent.keep (rdb_same hc), q, he, rfl⟩
end Go.Proofs.YtejhdhmopiahhaaDoor
