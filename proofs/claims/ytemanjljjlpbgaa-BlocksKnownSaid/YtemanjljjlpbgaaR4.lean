/- Layer 10: codes that are laid out in full; works -/
import Derived.Test.YtemanjljjlpbgaaW1
import Derived.Test.YtemanjljjlpbgaaB12
import Derived.Test.YtemanjljjlpbgaaR3
import Derived.Test.YtemanjljjlpbgaaSp15
namespace Go.Proofs.Ytemanjljjlpbgaa
open Go Go.Sp
theorem vw_of_ro {sz n cap r e : Nat} {cs : List Value} {fz : Nat × Nat} (hl : cs.length = n * sz) (hn : n ≤ maxLen) (k : Part) (h : ro r (.cells cs.toArray e fz) k) : Vw sz (.slice (some ⟨r, 0, none⟩) n cap) n cs k :=
  ⟨hl, hn, _, cap, rfl, .inr ⟨r, 0, cs, e, fz, rfl, h, fun i u hu => by rw [Nat.zero_add]; exact hu⟩⟩
theorem vw_nil (k : Part) : Vw 1 (.slice none 0 0) 0 [] k := ⟨rfl, Nat.zero_le _, none, 0, rfl, .inl rfl⟩
theorem vcode_of {v : Value} {xs : List Insn} {lvs : List Value} (hl : lvs.length = xs.length) (k : Part) (h : Vw 6 v xs.length ((xs.zip lvs).flatMap insnCells) k)
    (hs : ∀ (i : Nat) (x : Insn) (lv : Value), xs[i]? = some x → lvs[i]? = some lv → ∃ p cap, lv = .slice p x.l.length cap ∧ Vw 1 lv x.l.length (ints x.l) k) : VCode v xs k := ⟨lvs, hl, h, hs⟩
theorem codeA_of {w : World} {r1 r2 : Nat} {L : List HP} (h : Sat w (ro r2 (.cells ((codeA.zip [.slice (some ⟨r1, 0, none⟩) 1 1, .slice none 0 0, .slice none 0 0]).flatMap insnCells).toArray 40 (0, 0)) :: ro r1 (.cells #[.int .i64 2] 3 (0, 0)) :: L)) :
    Sat w (VCode (.slice (some ⟨r2, 0, none⟩) 3 3) codeA :: L) := by
  refine Sat.join (M := [_, _]) h fun k hk => ?_
  obtain ⟨h1, h2⟩ := star_two (fun _ _ hl e => hl _ _ e) (fun _ _ hl e => hl _ _ e) hk
  refine vcode_of (lvs := [.slice (some ⟨r1, 0, none⟩) 1 1, .slice none 0 0, .slice none 0 0]) rfl k (vw_of_ro (n := 3) rfl (by simp [maxLen]) k h1) ?_
  intro i x lv hx hlv
  match i with
  | 0 => cases hx; cases hlv; exact ⟨_, _, rfl, vw_of_ro (cs := [.int .i64 2]) rfl (by simp [maxLen]) k h2⟩
  | 1 => cases hx; cases hlv; exact ⟨_, _, rfl, vw_nil k⟩
  | 2 => cases hx; cases hlv; exact ⟨_, _, rfl, vw_nil k⟩
  | n + 3 => simp [codeA] at hx
theorem codeB_of {w : World} {r1 r2 : Nat} {L : List HP} (h : Sat w (ro r2 (.cells ((codeB.zip [.slice none 0 0, .slice (some ⟨r1, 0, none⟩) 1 1]).flatMap insnCells).toArray 40 (0, 0)) :: ro r1 (.cells #[.int .i64 0] 3 (0, 0)) :: L)) :
    Sat w (VCode (.slice (some ⟨r2, 0, none⟩) 2 2) codeB :: L) := by
  refine Sat.join (M := [_, _]) h fun k hk => ?_
  obtain ⟨h1, h2⟩ := star_two (fun _ _ hl e => hl _ _ e) (fun _ _ hl e => hl _ _ e) hk
  refine vcode_of (lvs := [.slice none 0 0, .slice (some ⟨r1, 0, none⟩) 1 1]) rfl k (vw_of_ro (n := 2) rfl (by simp [maxLen]) k h1) ?_
  intro i x lv hx hlv
  match i with
  | 0 => cases hx; cases hlv; exact ⟨_, _, rfl, vw_nil k⟩
  | 1 => cases hx; cases hlv; exact ⟨_, _, rfl, vw_of_ro (cs := [.int .i64 0]) rfl (by simp [maxLen]) k h2⟩
  | n + 2 => simp [codeB] at hx
end Go.Proofs.Ytemanjljjlpbgaa
