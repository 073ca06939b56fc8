/- Scopes (of labels that none goes to). -/
import Derived.Test.YtejhdhmopiahhaaDoorSp11
import Derived.Scope
namespace Go.Sp
open Go.RowKit
section
variable {P : Program} {N : Nat} {E : Env} {D : List Deferred} {L : List HP} {Q : Post}
def noG (Q : Post) : Post
  | .goto _, _, _, _ => False
  | e, E, D, L => Q e E D L
theorem J_scope {c : Code} (h : J P N none c E D L (noG Q)) : J P N none (.scope c) E D L Q := by
  intro F a w hr hs
  have h1 : c.wp P (Exit.noGoto (lift N F Q)) a w := wpIn_wide.1 (wpIn_mono (h F a w hr hs) (by
    rintro e a w ⟨E, D, L, q, r, s⟩
    cases e with
    | goto l => exact q.elim
    | _ => exact ⟨E, D, L, q, r, s⟩))
  exact (wpIn_wide (n := 0)).2 (wp_scope_straight h1)
end
end Go.Sp
