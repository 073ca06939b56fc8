/- Layer 11: of layer 3: splitting, the two ways. -/
import Derived.Test.YtickblndgihoeaaGreatDoorM28
import Derived.Test.YtickblndgihoeaaGreatDoorM29
import Derived.Test.YtickblndgihoeaaGreatDoorM17
namespace Go.Proofs.YtickblndgihoeaaGreatDoor
open Go Go.Sp
theorem sat_ptr0 {v : Value} {c pl : Int} {bs : List UInt8} {w : World} {L : List HP} (hc : c ≠ 0) (h : Sat w (PtR v c bs pl :: L)) : v = .pointer none := h.out fun _ hk => hk.elim (fun h => h.2) (fun h => absurd h.1 hc)
theorem sat_ptr1 {v : Value} {c pl : Int} {bs : List UInt8} {w : World} {L : List HP} (hc : c = 0) (h : Sat w (PtR v c bs pl :: L)) : ∃ q,v = ptr q ∧ Sat w (RdB q bs pl :: L) := by
  obtain ⟨q,h1⟩ := h.outE (α := Nat) (B := fun q k => v = ptr q ∧ RdB q bs pl k) (fun k hk => hk.elim (fun h => absurd hc h.1) (fun h => h.2))
  exact ⟨q,h1.out fun _ hk => hk.1,h1.conv fun _ hk => hk.2⟩
theorem sat_ptd0 {v : Value} {c pl : Int} {bs : List UInt8} {w : World} {L : List HP} (hc : c ≠ 0) (h : Sat w (PtD v c bs pl :: L)) : v = .pointer none := h.out fun _ hk => hk.elim (fun h => h.2) (fun h => absurd h.1 hc)
theorem sat_ptd1 {v : Value} {c pl : Int} {bs : List UInt8} {w : World} {L : List HP} (hc : c = 0) (h : Sat w (PtD v c bs pl :: L)) : ∃ q,v = ptr q ∧ Sat w (Dr q bs 0 pl :: L) := by
  obtain ⟨q,h1⟩ := h.outE (α := Nat) (B := fun q k => v = ptr q ∧ Dr q bs 0 pl k) (fun k hk => hk.elim (fun h => absurd hc h.1) (fun h => h.2))
  exact ⟨q,h1.out fun _ hk => hk.1,h1.conv fun _ hk => hk.2⟩
abbrev nil3 : Value := .agg #[.pointer none,.pointer none,.pointer none]
abbrev ptr3 (x : Nat × Nat × Nat) : Value := .agg #[ptr x.1,ptr x.2.1,ptr x.2.2]
theorem split_ok (bs : List UInt8) (hb : bs.length ≤ 1000000) (h : (tE bs).1 = 0) :
    Ct Tryz.prog 18 #[str bs] [] (RetE (fun _ : Nat × Nat × Nat => True) (fun x => .tuple #[ptr3 x,.nilIface]) (fun x => [RdB x.1 (s1A bs).part (s1A bs).at_,RdB x.2.1 (s2A bs).part (s2A bs).at_,RdB x.2.2 (s3A bs).part (s3A bs).at_])) :=
  Ct.postS (split_c bs hb) fun e L' ⟨⟨v1,v2,v3,v4⟩,_,he,hL⟩ F w hs => by
    dsimp only at he hL
    rw [hL,h] at hs
    have h1 := hs.rot
    obtain rfl := sat_er0 h1
    obtain ⟨a,rfl,h2⟩ := sat_ptr1 rfl h1.tail
    obtain ⟨b,rfl,h3⟩ := sat_ptr1 rfl h2.rot
    obtain ⟨c,rfl,h4⟩ := sat_ptr1 rfl h3.rot
    exact ⟨_,⟨(a,b,c),trivial,he,rfl⟩,h4.rot⟩
theorem split_bad (bs : List UInt8) (hb : bs.length ≤ 1000000) (h : (tE bs).1 ≠ 0) :
    Ct Tryz.prog 18 #[str bs] [] (RetE (fun _ : Nat => True) (fun q => .tuple #[nil3,xH q]) (fun q => [Ft q (tE bs).1 (tE bs).2])) :=
  Ct.postS (split_c bs hb) fun e L' ⟨⟨v1,v2,v3,v4⟩,_,he,hL⟩ F w hs => by
    dsimp only at he hL
    rw [hL] at hs
    obtain ⟨q,rfl,h1⟩ := sat_er1 h hs.rot
    have h2 := h1.rot
    obtain rfl := sat_ptr0 h h2
    have h3 := h2.tail
    obtain rfl := sat_ptr0 h h3
    have h4 := h3.tail
    obtain rfl := sat_ptr0 h h4
    exact ⟨_,⟨q,trivial,he,rfl⟩,h4.tail⟩
theorem dsplit_ok (bs : List UInt8) (hb : bs.length ≤ 1000000) (h : (tE bs).1 = 0) :
    Ct Tryz.prog 72 #[str bs] [] (RetE (fun _ : Nat × Nat × Nat => True) (fun x => .tuple #[ptr3 x,uC 0 (tE bs).2]) (fun x => [Dr x.1 (s1A bs).part 0 (s1A bs).at_,Dr x.2.1 (s2A bs).part 0 (s2A bs).at_,Dr x.2.2 (s3A bs).part 0 (s3A bs).at_])) :=
  Ct.postS (dsplit_c bs hb) fun e L' ⟨⟨v1,v2,v3⟩,_,he,hL⟩ F w hs => by
    dsimp only at he hL
    rw [h] at he
    rw [hL,h] at hs
    obtain ⟨a,rfl,h2⟩ := sat_ptd1 rfl hs.rot
    obtain ⟨b,rfl,h3⟩ := sat_ptd1 rfl h2.rot
    obtain ⟨c,rfl,h4⟩ := sat_ptd1 rfl h3.rot
    exact ⟨_,⟨(a,b,c),trivial,he,rfl⟩,h4.rot⟩
theorem dsplit_bad (bs : List UInt8) (hb : bs.length ≤ 1000000) (h : (tE bs).1 ≠ 0) :
    Ct Tryz.prog 72 #[str bs] [] (wF (.tuple #[nil3,uC (tE bs).1 (tE bs).2]) []) :=
  Ct.postS (dsplit_c bs hb) fun e L' ⟨⟨v1,v2,v3⟩,_,he,hL⟩ F w hs => by
    dsimp only at he hL
    rw [hL] at hs
    have h2 := hs.rot
    obtain rfl := sat_ptd0 h h2
    have h3 := h2.tail
    obtain rfl := sat_ptd0 h h3
    have h4 := h3.tail
    obtain rfl := sat_ptd0 h h4
    exact ⟨_,⟨he,rfl⟩,h4.tail⟩
theorem spl_parts {bs : List UInt8} (hb : bs.length ≤ 1000000) (h : (tE bs).1 = 0) : (0 ≤ (s1A bs).at_ ∧ (s1A bs).at_ + (s1A bs).part.length ≤ bs.length) ∧ (0 ≤ (s2A bs).at_ ∧ (s2A bs).at_ + (s2A bs).part.length ≤ bs.length) ∧ (0 ≤ (s3A bs).at_ ∧ (s3A bs).at_ + (s3A bs).part.length ≤ bs.length) := by
  have hh : (begA headL bs 0).1 = 0 ∧ (s1A bs).c = 0 ∧ (s2A bs).c = 0 ∧ (s3A bs).c = 0 := by
    unfold tE at h
    split at h
    · rename_i h0;exact absurd h h0
    · rename_i h0
      split at h
      · rename_i h1;exact absurd h h1
      · rename_i h1
        split at h
        · rename_i h2;exact absurd h h2
        · rename_i h2
          split at h
          · rename_i h3;exact absurd h h3
          · rename_i h3
            exact ⟨Classical.not_not.1 h0,Classical.not_not.1 h1,Classical.not_not.1 h2,Classical.not_not.1 h3⟩
  obtain ⟨h0,h1,h2,h3⟩ := hh
  have e := spl_len bs h0
  have e3 := secA_pl 3 (s2A bs).rest (s2A bs).pl
  change (s3A bs).pl + _ = _ ∧ _ at e3
  have a1 := secA_inv h1
  have a2 := secA_inv h2
  have a3 := secA_inv h3
  have b1 : (s1A bs).at_ + (s1A bs).part.length = (s1A bs).pl := a1.2.2.2.1
  have b2 : (s2A bs).at_ + (s2A bs).part.length = (s2A bs).pl := a2.2.2.2.1
  have b3 : (s3A bs).at_ + (s3A bs).part.length = (s3A bs).pl := a3.2.2.2.1
  have c1 : 5 ≤ (s1A bs).at_ := a1.2.2.2.2
  have c2 : (s1A bs).pl ≤ (s2A bs).at_ := a2.2.2.2.2
  have c3 : (s2A bs).pl ≤ (s3A bs).at_ := a3.2.2.2.2
  omega
end Go.Proofs.YtickblndgihoeaaGreatDoor
