/- Drawn regions that read and then store: one that reads, by its number. -/
import Derived.Test.YtfelcdbhlahehaaDoorM10
import Derived.Test.YtfelcdbhlahehaaDoorM5
namespace Go.Sp
open Go.RowKit
section
variable {P : Program} {N : Nat} {E : Env} {D : List Deferred} {L L0 : List HP} {Q : Post} {m : Nat}
theorem JM_take [hc : CalmQ Q] {ops : Array Oper} {fuel : Nat} {ls : List Bool} (i : Nat) {o : Oper} {v : Value} (ho : ops.toList[i]? = some o) (hg : o.guard = none) (hs : Region.noSelect ops = true) (hf : Region.free .any ops ls.toArray i = true)
    (hr : (Region.ready .any ops ls.toArray).contains i = true) (hmi : Nat.beq m i = false) (hm : (match ops.toList[m]? with | some om => depB om i | none => false) = true) (hu : ls.getD m true = false) (hd : dok N o.dst = true) (hl : Ent L L0) (hq : JQ P N o E D L0 v)
    (h : JM P N ops m fuel (ls.set i true) (put E o.dst v) D L L0 Q) : JM P N ops m (fuel + 1) ls E D L L0 Q := by
  intro F a w hrep hsat _
  rw [Array.getElem?_toList] at ho
  have hmi' : m ≠ i := fun e => by rw [e] at hmi; simp at hmi
  have hready : i ∈ Region.ready .any ops ls.toArray := by simpa using hr
  refine wpAnyM_first (U := fun w => Sat w (F :: L0)) (v := v) ho (Region.noSelect_spec hs) hmi' ?_ fuel ls.toArray a w (Region.free_spec ho hf) hready ?_ (.inl ⟨by simp [Region.wanted, hg], fun w hw => hq F a hrep w hw⟩) (hl F w hsat) (fun _ => hl F w hsat) ?_
  · rintro c a' w' ⟨E', D', L', q, _⟩
    exact absurd q (hc.h c E' D' L')
  · refine .inr ⟨fun _ h => h, by rw [getD_toArray]; exact hu, ?_⟩
    split at hm
    · rename_i om hom
      refine ⟨om, by rw [Array.getElem?_toList] at hom; exact hom, ?_⟩
      unfold depB at hm
      rw [List.any_eq_true] at hm
      obtain ⟨e, he, hb⟩ := hm
      simp only [Bool.and_eq_true] at hb
      exact ⟨e, Array.mem_toList_iff.1 he, hb.1, Nat.eq_of_beq_eq_true hb.2⟩
    · cases hm
  · have := h F (a.put o.dst v) w (hrep.put hd v) hsat (fun _ => hl)
    rw [List.setIfInBounds_toArray]
    exact this
end
end Go.Sp
