/- Layer 3: the document splits: a part; the head. -/
import Derived.Test.YtickblndgihoeaaGreatDoorM26
import Derived.Test.YtickblndgihoeaaGreatDoorM18
import Derived.Test.YtickblndgihoeaaGreatDoorM5
namespace Go.Proofs.YtickblndgihoeaaGreatDoor
open Go Go.Sp
def PtD (v : Value) (c : Int) (bs : List UInt8) (pl : Int) : HP := fun h => (c ≠ 0 ∧ v = .pointer none) ∨ (c = 0 ∧ ∃ q : Nat,v = ptr q ∧ Dr q bs 0 pl h)
theorem ptd_none {c pl : Int} {bs : List UInt8} {L : List HP} (hc : c ≠ 0) : Ent L (PtD (.pointer none) c bs pl :: L) := fun _ _ hs => (hs.add (.inl ⟨hc,rfl⟩)).swap
theorem ptd_some {q : Nat} {pl : Int} {bs : List UInt8} {L : List HP} : Ent (Dr q bs 0 pl :: L) (PtD (ptr q) 0 bs pl :: L) := fun _ _ hs => (hs.swap.conv fun _ hk => .inr ⟨rfl,q,rfl,hk⟩).swap
theorem dpart_D (d : Nat) (bs : List UInt8) (pl : Int) (n : Nat) :
    Ct Tryz.prog 125 #[ptr d,.int .i64 (n : Int)] [DrB d bs pl] (RetE (fun x : Value => x.oneCell' = true) (fun x => .tuple #[x,uC (takeA bs pl n).2.1 (takeA bs pl n).2.2]) (fun x => [PtD x (takeA bs pl n).2.1 (bs.take n) pl,DrB d (takeR bs pl n).1 (takeR bs pl n).2])) := by
  by_cases h : bs.length < n
  · have h1 : takeA bs pl n = ([],3,pl) := by unfold takeA;rw [if_neg (by omega),if_pos (by omega)]
    have h2 : takeR bs pl n = (bs,pl) := by unfold takeR;rw [if_neg (by omega),if_pos (by omega)]
    have hp := dpart_bad d bs pl n (by rw [h1];show (3 : Int) ≠ 0;decide)
    rw [h1] at hp ⊢
    rw [h2]
    exact Ct.post hp fun _ _ ⟨he,hL⟩ => ⟨_,by rw [hL];exact ptd_none (c := 3) (pl := pl) (bs := bs.take n) (by decide),.pointer none,rfl,he,rfl⟩
  · have h1 : takeA bs pl n = (bs.take n,0,0) := by unfold takeA;rw [if_neg (by omega),if_neg (by omega),Int.toNat_natCast]
    have h2 : takeR bs pl n = (bs.drop n,pl + n) := by unfold takeR;rw [if_neg (by omega),if_neg (by omega),Int.toNat_natCast]
    rw [h1,h2]
    refine ct_drb fun s k bg h3 h4 h5 h6 h7 => ?_
    have e : bs.length = s.length - k := by rw [h4,List.length_drop]
    subst h5
    have e2 : bs.take n = (s.take (k + n)).drop k := by rw [h4,List.drop_take];congr 1;omega
    rw [e2]
    exact Ct.post (dpart_ok d s k bg n h3 (by omega) (by omega) (by omega)) fun _ _ ⟨q,_,he,hL⟩ => ⟨_,by
      rw [hL]
      exact (drb_close (k := k + n) rfl (by omega) (by rw [h4,List.drop_drop]) (by omega) h6 h7).trans (ent_perm2.trans ptd_some),ptr q,rfl,he,rfl⟩
end Go.Proofs.YtickblndgihoeaaGreatDoor
