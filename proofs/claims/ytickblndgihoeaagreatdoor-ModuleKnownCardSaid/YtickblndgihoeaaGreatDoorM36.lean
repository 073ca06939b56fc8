/- Parts of rows of structs: one thing; made rows of structs, frozen. -/
import Derived.Test.YtickblndgihoeaaGreatDoorM34
import Derived.Test.YtickblndgihoeaaGreatDoorM35
set_option linter.unusedSimpArgs false
namespace Go.Sp
open Go.RowKit
theorem vw_pick {α : Type} {c : α → List Value} {sz : Nat} (hc : ∀ x, (c x).length = sz) {l : List α} {b o cap cap' j : Nat} {x : α} (hj : l[j]? = some x) (k : Part) (h : Vw sz (.slice (some ⟨b, o, none⟩) l.length cap) l.length (l.flatMap c) k) : Vw sz (.slice (some ⟨b, o + j * sz, none⟩) 1 cap') 1 ([x].flatMap c) k := by
  obtain ⟨h1, h2, p, q, h3, h4⟩ := h
  cases h3
  have hjl : j < l.length := (List.getElem?_eq_some_iff.1 hj).1
  obtain ⟨b', o', all, e, fz, h5, h6, h7⟩ := h4.resolve_left (by omega)
  cases h5
  refine ⟨by simp [hc], by simp [maxLen] at h2 ⊢, _, _, rfl, .inr ⟨_, _, all, e, fz, rfl, h6, fun i u hu => ?_⟩⟩
  have hi : i < sz := by
    have := (List.getElem?_eq_some_iff.1 hu).1
    simpa [hc] using this
  rw [show o + j * sz + i = o + (j * sz + i) by omega]
  refine h7 _ _ ?_
  rw [flat_get hc l j i x hi hj, ← hu]
  simp
theorem made_rep {α : Type} (c : α → List Value) {sz : Nat} (hsz : ∀ x, (c x).length = sz) (h0 : 0 < sz) (x : α) (n : Nat) : madeCells (c x).toArray (n * sz) = ((List.replicate n x).flatMap c).toArray := by
  have hl : ∀ n, ((List.replicate n x).flatMap c).length = n * sz := fun n => by
    induction n with
    | zero => simp
    | succ n ih => rw [List.replicate_succ, List.flatMap_cons, List.length_append, ih, hsz, Nat.succ_mul]; omega
  apply Array.ext
  · simp only [size_madeCells, List.size_toArray, hl]
  · intro i h1 h2
    rw [size_madeCells] at h1
    have hr : i % sz < sz := Nat.mod_lt _ h0
    have hq : i / sz < n := Nat.div_lt_of_lt_mul (by rw [Nat.mul_comm]; exact h1)
    have hg := flat_get (f := c) hsz (List.replicate n x) (i / sz) (i % sz) x hr (by simp [hq])
    rw [Nat.div_add_mod'] at hg
    apply Option.some.inj
    rw [← Array.getElem?_eq_getElem h2, List.getElem?_toArray, hg]
    have hi : i % sz < (c x).length := by rw [hsz]; exact hr
    simp only [madeCells, Array.getElem_map, Array.getElem_range, List.size_toArray, hsz]
    rw [List.getElem?_eq_getElem hi]
    simp [hi]
section
variable {P : Program} {N : Nat} {rd : Option Nat} {E : Env} {D : List Deferred} {L : List HP} {Q : Post} {next : Env → List Deferred → List HP → Prop}
variable {d : Option Nat} {ty : TypeId} {pos : String} {after : Array Edge} {g : Option (Nat × Bool)}
/-- v[j:j+1] of a row. -/
theorem JQ_piece {t e : TypeId} [TU P t (.slice e)] {z : Value} {n k : Nat} [TI P e z n k] {x lo hi : Operand} {b o len cap : Nat} (j : Nat) {ik ik2 : IntKind} (hx : ev E x = some (.slice (some ⟨b, o, none⟩) len cap)) (hl : ev E lo = some (.int ik (j : Int))) (hh : ev E hi = some (.int ik2 ((j + 1 : Nat) : Int))) (hj : j + 1 ≤ cap) :
    JQ P N ⟨d, .slice t x (some lo) (some hi) none, ty, pos, after, g⟩ E D L (.slice (some ⟨b, o + j * n, none⟩) 1 (cap - j)) := fun F a hr w hs => by
  obtain ⟨i, h1, h2, h3, h4⟩ := TI.h (P := P) (t := e) (z := z) (n := n) (b := k)
  obtain ⟨m, hm⟩ : ∃ m, m = j + 1 := ⟨_, rfl⟩
  rw [← hm] at hh
  have h5 : (Instr.sliceAt t (.slice (some ⟨b, o, none⟩) len cap) (some (.int ik (j : Int))) (some (.int ik2 (m : Int))) none).run P w = (Instr.slice t (.slice (some ⟨b, o, none⟩) len cap) (some (.int ik (j : Int))) (some (.int ik2 (m : Int))) none).run P w := by simp [Instr.sliceAt, run_underlying' (TU.h (P := P) (t := t))]
  have h6 : ¬ cap = j := by omega
  have h7 : m - j = 1 := by omega
  simp [execOp, hr.eval hx, hr.eval hh, hr.eval hl, h5, Instr.slice, Instr.sliceBounds, run_underlying' (TU.h (P := P) (t := t)), run_sliceBound _ ik2 (m : Int) cap _ (by omega) (by omega), run_sliceBound _ ik (j : Int) m _ (by omega) (by omega), run_sizeOf' h1, addr_add, h3, h6, h7]
/-- make of a row of structs, frozen. -/
theorem JO_makeV {α : Type} (c : α → List Value) (x0 : α) {x y : Operand} {t e sz k : Nat} [TU P t (.slice e)] {z : Value} [TI P e z sz k] {n : Nat} {ik jk : IntKind} (hsz : ∀ x, (c x).length = sz) (h0 : 0 < sz) (hx : ev E x = some (.int ik (n : Int))) (hy : ev E y = some (.int jk (n : Int))) (hz : z.cells = (c x0).toArray) (hb : k * n ≤ 281474976710656) (hn : n ≤ maxLen)
    (hd : dok N d = true) (h : ∀ b, next (put E d (.slice (some ⟨b, 0, none⟩) n n)) D (Vw sz (.slice (some ⟨b, 0, none⟩) n n) n ((List.replicate n x0).flatMap c) :: L)) : JO P N rd ⟨d, .makeSlice t x y, ty, pos, after, g⟩ E D L next Q := by
  refine JO_weak (next := fun E' D' L' => ∃ r, E' = put E d (.slice (some ⟨r, 0, none⟩) n n) ∧ D' = D ∧ L' = pt r (.cells ((List.replicate n x0).flatMap c).toArray e (0, 0)) :: L) (JO_makeM (sz := sz) (k := k) (z := z) ((List.replicate n x0).flatMap c) hx hy (by rw [hz]; exact made_rep c hsz h0 x0 n) hb hn hd (fun r => ⟨r, rfl, rfl, rfl⟩)) ?_
  rintro E' D' L' ⟨r, rfl, rfl, rfl⟩
  refine ⟨_, ?_, h r⟩
  have hl : ((List.replicate n x0).flatMap c).length = n * sz := by
    have : ∀ n, ((List.replicate n x0).flatMap c).length = n * sz := fun n => by
      induction n with
      | zero => simp
      | succ n ih => rw [List.replicate_succ, List.flatMap_cons, List.length_append, ih, hsz, Nat.succ_mul]; omega
    exact this n
  exact (ent_own (sz := sz) hl (Nat.le_refl _) hn hl).trans ent_freeze
end
end Go.Sp

/- Layer 11: fresh modules; what cannot be laid. -/
namespace Go.Proofs.YtickblndgihoeaaGreatDoor
open Go Go.Sp
/-- A module that was put together, of which no place is known. -/
abbrev freshM (ns : List Nod) (na : SA) (ts : List Tem) (ta : SA) (cs : List (Int × Int)) (ca : SA) (ss : List Sta) (sa : SA) : Mdl := ⟨ns, na, ts, ta, cs, ca, ss, sa, [], no0, [], no0, [], no0, [], no0⟩
theorem fresh_in {ns : List Nod} {na : SA} {ts : List Tem} {ta : SA} {cs : List (Int × Int)} {ca : SA} {ss : List Sta} {sa : SA} {k : Part} (h1 : Vw 6 (slc na ns.length) ns.length (ns.flatMap nodC) k) (h2 : AllH NodR ns k) (h3 : Vw 3 (slc ta ts.length) ts.length (ts.flatMap temC) k) (h4 : AllH TemR ts k)
    (h5 : Vw 2 (slc ca cs.length) cs.length (cs.flatMap edgeC) k) (h6 : Vw 2 (slc sa ss.length) ss.length (ss.flatMap staC) k) (h7 : AllH StaQ ss k) : ModR (freshM ns na ts ta cs ca ss sa) k := by
  have hi : Vw 1 (slc no0 0) 0 (ints []) k := by rw [ints_nil]; exact nil_vw 1 k
  intro A hA
  simp only [modK, List.mem_cons, List.not_mem_nil, or_false] at hA
  rcases hA with rfl | rfl | rfl | rfl | rfl | rfl | rfl | rfl | rfl | rfl | rfl
  · exact h1
  · exact h2
  · exact h3
  · exact h4
  · exact h5
  · exact h6
  · exact h7
  · exact hi
  · exact hi
  · exact hi
  · exact hi
theorem all_none {α : Type} (R : α → HP) (k : Part) : AllH R [] k := fun _ h => by cases h
theorem all_cons {α : Type} {R : α → HP} {x : α} {l : List α} {k : Part} (h : R x k) (hl : AllH R l k) : AllH R (x :: l) k := fun y hy => by
  rcases List.mem_cons.1 hy with rfl | hy
  · exact h
  · exact hl y hy
theorem same_er (m : Mdl) : SameM m (erM m) := by
  refine ⟨?_, ?_, rfl, ?_⟩
  · simp [erM, erN]
  · simp [erM, erT, erY]
  · simp [erM, erS]
theorem bnd_same {a b : Mdl} (h : SameM a b) (hb : BndM b) : BndM a := by
  obtain ⟨h1, h2, h3, h4⟩ := h
  obtain ⟨⟨b1, b2⟩, ⟨b3, b4⟩, b5, ⟨b6, b7⟩⟩ := hb
  have e1 := map_two h1
  have e2 := map_two h2
  have e4 := map_two h4
  refine ⟨⟨by omega, fun x hx => ?_⟩, ⟨by omega, fun x hx => ?_⟩, by rw [h3]; exact b5, ⟨by omega, fun x hx => ?_⟩⟩
  · obtain ⟨i, hi, rfl⟩ := List.mem_iff_getElem.1 hx
    obtain ⟨u, v, hu, hv, e⟩ := e1.2 i hi
    rw [List.getElem?_eq_getElem hi] at hu
    cases hu
    have := b2 v (List.mem_of_getElem? hv)
    have e' := congrArg Nod.next e
    simp only [erN] at e'
    rw [e']; exact this
  · obtain ⟨i, hi, rfl⟩ := List.mem_iff_getElem.1 hx
    obtain ⟨u, v, hu, hv, e⟩ := e2.2 i hi
    rw [List.getElem?_eq_getElem hi] at hu
    cases hu
    have := b4 v (List.mem_of_getElem? hv)
    simp only [Prod.mk.injEq] at e
    have e' := congrArg List.length e.2
    simp only [List.length_map] at e'
    rw [e.1, e']; exact this
  · obtain ⟨i, hi, rfl⟩ := List.mem_iff_getElem.1 hx
    obtain ⟨u, v, hu, hv, e⟩ := e4.2 i hi
    rw [List.getElem?_eq_getElem hi] at hu
    cases hu
    have := b7 v (List.mem_of_getElem? hv)
    have e' := congrArg Sta.args e
    simp only [erS] at e'
    rw [e']; exact this
theorem sec1_bad {n : Nod} (h : nodeO n = none) (v : SA) : sec1O (freshM [n] v [] no0 [] no0 [] no0) = none := by
  unfold sec1O
  refine (listO_go (show (0 : Int) ≤ ((1 : Nat) : Int) by decide)).trans ?_
  rw [mapO_bad (o := nodeO) (x := n) h (by simp), catO_none']
theorem sec2_bad {t : Tem} (h : temO t = none) (v : SA) : sec2O (freshM [] no0 [t] v [] no0 [] no0) = none := by
  unfold sec2O
  refine (listO_go (show (0 : Int) ≤ ((1 : Nat) : Int) by decide)).trans ?_
  rw [mapO_bad (o := temO) (x := t) h (by simp), catO_none']
theorem sec3_bad {s : Sta} (h : staO s = none) (v : SA) : sec3O (freshM [] no0 [] no0 [] no0 [s] v) = none := by
  unfold sec3O
  rw [show listO 0 8 staO [s] = none from (listO_go (show (0 : Int) ≤ ((1 : Nat) : Int) by decide)).trans (by rw [mapO_bad (o := staO) (x := s) h (by simp), catO_none']), catO_none']
theorem arg_bad {p : Ar} (h : arO p = none) (v : SA) : staO ⟨0, [p], v⟩ = none := by
  unfold staO
  rw [show listO 0 8 arO [p] = none from (listO_go (show (0 : Int) ≤ ((1 : Nat) : Int) by decide)).trans (by rw [mapO_bad (o := arO) (x := p) h (by simp), catO_none']), catO_none']
/-- The chapter's nodes that cannot be laid. -/
abbrev badN (e e9 e64 e1001 : SA) : List Nod := [⟨0, 1, false, (0, 0), [], no0⟩, ⟨6, 0, false, (0, 0), [], no0⟩, ⟨1, 0, false, (0, 0), [], no0⟩, ⟨1, 1001, false, (0, 0), [(0, 0)], e⟩, ⟨2, 0, false, (1, 0), [(0, 0)], e⟩, ⟨3, 0, false, (0, 0), [], no0⟩, ⟨3, 0, true, (0, 0), [(0, 0)], e⟩,
  ⟨4, 0, false, (0, 0), List.replicate 9 (0, 0), e9⟩, ⟨5, 0, false, (0, 0), [], no0⟩, ⟨5, 1, false, (0, 0), [(0, 0)], e⟩, ⟨0, 0, false, (0, 0), [(0, 0)], e⟩, ⟨1, 0, false, (0, 0), [(64, 0)], e64⟩, ⟨1, 0, false, (0, 0), [(0, 1001)], e1001⟩]
theorem badN_no (e e9 e64 e1001 : SA) : ∀ n ∈ badN e e9 e64 e1001, nodeO n = none := fun n hn => by
  simp only [badN, List.mem_cons, List.not_mem_nil, or_false] at hn
  rcases hn with rfl | rfl | rfl | rfl | rfl | rfl | rfl | rfl | rfl | rfl | rfl | rfl | rfl <;> rfl
abbrev badA : List Ar := [⟨false, 0, 1⟩, ⟨true, 1, 0⟩, ⟨true, 0, 32⟩, ⟨true, 0, -1⟩]
theorem badA_no : ∀ n ∈ badA, arO n = none := fun n hn => by
  simp only [badA, List.mem_cons, List.not_mem_nil, or_false] at hn
  rcases hn with rfl | rfl | rfl | rfl <;> rfl
abbrev zeroN : Nod := ⟨0, 0, false, (0, 0), [], no0⟩
abbrev zeroS : Sta := ⟨0, [], no0⟩
theorem many_no (v : SA) : sec1O (freshM (List.replicate 65 zeroN) v [] no0 [] no0 [] no0) = none := by
  unfold sec1O listO
  rw [numO_out (by simp)]
  simp
abbrev fullL : List UInt8 := [67, 76, 81, 89, 1, 1, 65, 64] ++ List.replicate 64 0 ++ [2, 1, 0, 3, 50, 16] ++ List.replicate 32 0 ++ [8] ++ List.replicate 16 0
abbrev fullM : Mdl := ⟨List.replicate 64 zeroN, no0, [], no0, List.replicate 16 (0, 0), no0, List.replicate 8 zeroS, no0, (List.range 64).map (fun i => ((8 + i : Nat) : Int)), no0, [], no0, (List.range 16).map (fun i => ((78 + 2 * i : Nat) : Int)), no0, (List.range 8).map (fun i => ((111 + 2 * i : Nat) : Int)), no0⟩
theorem full_D : takenM fullL = .ok fullM [] 127 := (taken_D _).trans (by kernel_rfl)
theorem full_same (a b d : SA) : SameM (freshM (List.replicate 64 zeroN) a [] no0 (List.replicate 16 (0, 0)) b (List.replicate 8 zeroS) d) fullM := ⟨rfl, rfl, rfl, rfl⟩
/-- The chapter's module. -/
abbrev bigN (a0 a1 a3 a4 : SA) : List Nod := [⟨1, 300, true, (2, 1), [(1, 0)], a0⟩, ⟨4, 4, false, (0, 0), [(2, 0), (3, 200)], a1⟩, ⟨0, 0, false, (0, 0), [], no0⟩, ⟨5, 0, false, (0, 0), [(0, 5)], a3⟩, ⟨2, 0, false, (0, 0), [(0, 0)], a4⟩]
abbrev bigP : List Prm := [⟨false, (0, 0)⟩, ⟨true, (1, 130)⟩]
abbrev bigI (a : Option Addr) (k : Nat) : List YI := [(⟨1, -1, 0, 0, 0, []⟩, none, 0), (⟨11, 0, 0, 0, 0, [0]⟩, a, k)]
abbrev bigT (pa : SA) (a : Option Addr) (k : Nat) (ca : SA) : Tem := ⟨bigP, pa, bigI a k, ca, [], no0⟩
abbrev bigA : List Ar := [⟨false, 64, 0⟩, ⟨true, 0, 1⟩]
abbrev bigM (a0 a1 a3 a4 na pa : SA) (a : Option Addr) (k : Nat) (ca ta cha sa' sa : SA) : Mdl := freshM (bigN a0 a1 a3 a4) na [bigT pa a k ca] ta [(1, 2)] cha [⟨0, bigA, sa'⟩] sa
abbrev typesL : List UInt8 := [5, 1, 172, 2, 1, 2, 1, 1, 0, 4, 4, 2, 2, 0, 3, 200, 1, 0, 5, 0, 5, 2, 0, 0, 0, 0]
abbrev codeL : List UInt8 := [1, 2, 0, 1, 1, 130, 1, 2, 1, 1, 11, 0]
abbrev bootL : List UInt8 := [1, 1, 2, 1, 0, 2, 0, 128, 1, 1, 1]
abbrev bigS : List UInt8 := [67, 76, 81, 89, 1, 1, 26, 5, 1, 172, 2, 1, 2, 1, 1, 0, 4, 4, 2, 2, 0, 3, 200, 1, 0, 5, 0, 5, 2, 0, 0, 0, 0, 2, 12, 1, 2, 0, 1, 1, 130, 1, 2, 1, 1, 11, 0, 3, 11, 1, 1, 2, 1, 0, 2, 0, 128, 1, 1, 1]
theorem big_join : joinA typesL codeL bootL = (bigS, 0) := by
  unfold joinA
  rw [if_pos (by decide)]
  simp [joinL, secL, headL, encU_lt]
abbrev bigR : Mdl := ⟨bigN no0 no0 no0 no0, no0, [⟨bigP, no0, bigI none 0, no0, [43, 45], no0⟩], no0, [(1, 2)], no0, [⟨0, bigA, no0⟩], no0, [8, 16, 24, 25, 28], no0, [36], no0, [50], no0, [53], no0⟩
theorem big_D : takenM bigS = .ok bigR [] 60 := (taken_D _).trans (by kernel_rfl)
theorem big_same (a0 a1 a3 a4 na pa : SA) (a : Option Addr) (k : Nat) (ca ta cha sa' sa : SA) : SameM (bigM a0 a1 a3 a4 na pa a k ca ta cha sa' sa) bigR := ⟨rfl, rfl, rfl, rfl⟩
theorem small_big (a0 a1 a3 a4 na pa : SA) (a : Option Addr) (k : Nat) (ca ta cha sa' sa : SA) : smallM (bigM a0 a1 a3 a4 na pa a k ca ta cha sa' sa) := by
  refine ⟨?_, ?_, ?_, ?_⟩ <;> simp [costs, costN, costT, costS]
theorem bnd_big : BndM bigR := by
  refine ⟨⟨by decide, fun x hx => ?_⟩, ⟨by decide, fun x hx => ?_⟩, by decide, ⟨by decide, fun x hx => ?_⟩⟩
  · simp only [bigN, List.mem_cons, List.not_mem_nil, or_false] at hx
    rcases hx with rfl | rfl | rfl | rfl | rfl <;> decide
  · simp only [List.mem_cons, List.not_mem_nil, or_false] at hx
    subst hx; decide
  · simp only [List.mem_cons, List.not_mem_nil, or_false] at hx
    subst hx; decide
theorem err1_D : takenM [67, 76, 81, 89, 1, 1, 4, 1, 3, 0, 0, 2, 1, 0, 3, 2, 0, 0] = .bad 2 10 := (taken_D _).trans (by rfl)
theorem err2_D : takenM [67, 76, 81, 89, 1, 1, 1, 0, 2, 3, 1, 0, 0, 3, 2, 0, 0] = .bad 2 12 := (taken_D _).trans (by rfl)
theorem err3_D : takenM [67, 76, 81, 89, 1, 1, 2, 0, 0, 2, 1, 0, 3, 2, 0, 0] = .bad 4 8 := (taken_D _).trans (by rfl)
theorem err4_D : takenM [67, 76, 81, 89, 1, 1, 1, 65, 2, 1, 0, 3, 2, 0, 0] = .bad 4 7 := (taken_D _).trans (by rfl)
theorem err5_D : takenM [67, 76, 81, 89, 1, 1, 1, 0, 2, 1, 0, 3, 1, 0] = .bad 3 14 := (taken_D _).trans (by rfl)
theorem bigR_in (a0 a1 a3 a4 na pa ca ta cha sa' sa : SA) (ia : Option Addr) {L : List HP} : Ent (Vw 2 (slc a0 1) 1 ([(1, 0)].flatMap edgeC) :: Vw 2 (slc a1 2) 2 ([(2, 0), (3, 200)].flatMap edgeC) :: Vw 2 (slc a3 1) 1 ([(0, 5)].flatMap edgeC) :: Vw 2 (slc a4 1) 1 ([(0, 0)].flatMap edgeC) :: Vw 6 (slc na 5) 5 ((bigN a0 a1 a3 a4).flatMap nodC) ::
    Vw 3 (slc pa 2) 2 (bigP.flatMap prmC) :: Vw 1 (slc (ia, 1) 1) 1 (ints [0]) :: Vw 6 (slc ca 2) 2 ((bigI ia 1).flatMap insnC) :: Vw 3 (slc ta 1) 1 ([bigT pa ia 1 ca].flatMap temC) :: Vw 2 (slc cha 1) 1 ([(1, 2)].flatMap edgeC) :: Vw 3 (slc sa' 2) 2 (bigA.flatMap arC) :: Vw 2 (slc sa 1) 1 ([(⟨0, bigA, sa'⟩ : Sta)].flatMap staC) :: L)
    (ModR (bigM a0 a1 a3 a4 na pa ia 1 ca ta cha sa' sa) :: L) :=
  ent_conj (A := ModR (bigM a0 a1 a3 a4 na pa ia 1 ca ta cha sa' sa)) (M := [_, _, _, _, _, _, _, _, _, _, _, _]) (fun B hB => by
    simp only [List.mem_cons, List.not_mem_nil, or_false] at hB
    rcases hB with rfl | rfl | rfl | rfl | rfl | rfl | rfl | rfl | rfl | rfl | rfl | rfl <;> exact up_vw _ _ _ _) fun k h => by
    simp only [List.mem_cons, List.not_mem_nil, or_false, forall_eq_or_imp, forall_eq] at h
    obtain ⟨h0, h1, h3, h4, hn, hp, hi, hc, ht, hch, hs', hs⟩ := h
    refine fresh_in hn ?_ ht ?_ hch hs ?_
    · exact all_cons h0 (all_cons h1 (all_cons (tru_nod _ rfl rfl k) (all_cons h3 (all_one h4))))
    · refine all_one ⟨hp, hc, all_cons (tru_ins _ rfl (by decide) k) (all_one ⟨⟨(show 1 ≤ 1 by decide), (show 1 ≤ 1000 by decide), (show (-9223372036854775808 : Int) ≤ 0 ∧ (0 : Int) ≤ 9223372036854775807 by decide)⟩, hi⟩), ?_⟩
      rw [ints_nil]; exact nil_vw 1 k
    · exact all_one ⟨fun p hp => by
        simp only [bigA, List.mem_cons, List.not_mem_nil, or_false] at hp
        rcases hp with rfl | rfl <;> decide, hs'⟩
theorem badN_in (e e9 e64 e1001 : SA) {L : List HP} : Ent (Vw 2 (slc e 1) 1 ([(0, 0)].flatMap edgeC) :: Vw 2 (slc e9 9) 9 ((List.replicate 9 (0, 0)).flatMap edgeC) :: Vw 2 (slc e64 1) 1 ([(64, 0)].flatMap edgeC) :: Vw 2 (slc e1001 1) 1 ([(0, 1001)].flatMap edgeC) :: L) (AllH NodR (badN e e9 e64 e1001) :: L) :=
  ent_conj (A := AllH NodR (badN e e9 e64 e1001)) (M := [_, _, _, _]) (fun B hB => by
    simp only [List.mem_cons, List.not_mem_nil, or_false] at hB
    rcases hB with rfl | rfl | rfl | rfl <;> exact up_vw _ _ _ _) fun k h => by
    simp only [List.mem_cons, List.not_mem_nil, or_false, forall_eq_or_imp, forall_eq] at h
    obtain ⟨h1, h2, h3, h4⟩ := h
    exact all_cons (tru_nod _ rfl rfl k) (all_cons (tru_nod _ rfl rfl k) (all_cons (tru_nod _ rfl rfl k) (all_cons h1 (all_cons h1 (all_cons (tru_nod _ rfl rfl k) (all_cons h1 (all_cons h2 (all_cons (tru_nod _ rfl rfl k) (all_cons h1 (all_cons h1 (all_cons h3 (all_one h4))))))))))))
/-- A module of one node; of one start with one argument; of nodes, channels, starts that hold nothing. -/
theorem oneN_in {n : Nod} {v : SA} {L : List HP} : Ent (Vw 6 (slc v 1) 1 ([n].flatMap nodC) :: NodR n :: L) (ModR (freshM [n] v [] no0 [] no0 [] no0) :: L) :=
  ent_conj (A := ModR (freshM [n] v [] no0 [] no0 [] no0)) (M := [_, _]) (fun B hB => by
    simp only [List.mem_cons, List.not_mem_nil, or_false] at hB
    rcases hB with rfl | rfl <;> exact up_vw _ _ _ _) fun k h => by
    simp only [List.mem_cons, List.not_mem_nil, or_false, forall_eq_or_imp, forall_eq] at h
    exact fresh_in h.1 (all_one h.2) (nil_vw 3 k) (all_none _ k) (nil_vw 2 k) (nil_vw 2 k) (all_none _ k)
theorem oneS_in {p : Ar} {u v : SA} (hp : arOk p) {L : List HP} : Ent (Vw 3 (slc u 1) 1 ([p].flatMap arC) :: Vw 2 (slc v 1) 1 ([(⟨0, [p], u⟩ : Sta)].flatMap staC) :: L) (ModR (freshM [] no0 [] no0 [] no0 [⟨0, [p], u⟩] v) :: L) :=
  ent_conj (A := ModR (freshM [] no0 [] no0 [] no0 [⟨0, [p], u⟩] v)) (M := [_, _]) (fun B hB => by
    simp only [List.mem_cons, List.not_mem_nil, or_false] at hB
    rcases hB with rfl | rfl <;> exact up_vw _ _ _ _) fun k h => by
    simp only [List.mem_cons, List.not_mem_nil, or_false, forall_eq_or_imp, forall_eq] at h
    exact fresh_in (nil_vw 6 k) (all_none _ k) (nil_vw 3 k) (all_none _ k) (nil_vw 2 k) h.2 (all_one ⟨fun q hq => by rw [List.mem_singleton] at hq; rw [hq]; exact hp, h.1⟩)
theorem zeroN_all (n : Nat) (k : Part) : AllH NodR (List.replicate n zeroN) k := fun x hx => by
  rw [List.eq_of_mem_replicate hx]; exact tru_nod _ rfl rfl k
theorem zeroS_all (n : Nat) (k : Part) : AllH StaQ (List.replicate n zeroS) k := fun x hx => by
  rw [List.eq_of_mem_replicate hx]; exact tru_sta _ rfl rfl k
theorem full_in {n c s : Nat} {a b d : SA} {L : List HP} : Ent (Vw 6 (slc a n) n ((List.replicate n zeroN).flatMap nodC) :: Vw 2 (slc b c) c ((List.replicate c ((0, 0) : Int × Int)).flatMap edgeC) :: Vw 2 (slc d s) s ((List.replicate s zeroS).flatMap staC) :: L) (ModR (freshM (List.replicate n zeroN) a [] no0 (List.replicate c (0, 0)) b (List.replicate s zeroS) d) :: L) :=
  ent_conj (A := ModR (freshM (List.replicate n zeroN) a [] no0 (List.replicate c (0, 0)) b (List.replicate s zeroS) d)) (M := [_, _, _]) (fun B hB => by
    simp only [List.mem_cons, List.not_mem_nil, or_false] at hB
    rcases hB with rfl | rfl | rfl <;> exact up_vw _ _ _ _) fun k h => by
    simp only [List.mem_cons, List.not_mem_nil, or_false, forall_eq_or_imp, forall_eq] at h
    refine fresh_in ?_ (zeroN_all n k) (nil_vw 3 k) (all_none _ k) ?_ ?_ (zeroS_all s k)
    · rw [List.length_replicate]; exact h.1
    · rw [List.length_replicate]; exact h.2.1
    · rw [List.length_replicate]; exact h.2.2
/-- The last ones that cannot be laid: a start of another template, a parameter with a type, an instruction of no operation. -/
theorem start_no (v : SA) : sec3O (freshM [] no0 [] no0 [] no0 [⟨16, [], no0⟩] v) = none := sec3_bad (by unfold staO; rw [numO_out (by decide)]; simp) v
theorem lateS_in {s : Sta} {v : SA} (h1 : s.args = []) (h2 : s.a = no0) {L : List HP} : Ent (Vw 2 (slc v 1) 1 ([s].flatMap staC) :: L) (ModR (freshM [] no0 [] no0 [] no0 [s] v) :: L) :=
  ent_conj (A := ModR (freshM [] no0 [] no0 [] no0 [s] v)) (M := [_]) (fun B hB => by
    rw [List.mem_singleton] at hB; rw [hB]; exact up_vw _ _ _ _) fun k h => fresh_in (nil_vw 6 k) (all_none _ k) (nil_vw 3 k) (all_none _ k) (nil_vw 2 k) (h _ (List.mem_singleton.2 rfl)) (all_one (tru_sta _ h1 h2 k))
abbrev parT (u v : SA) : Tem := ⟨[⟨false, (1, 0)⟩], u, [(⟨0, 0, 0, 0, 0, []⟩, none, 0)], v, [], no0⟩
theorem parT_no (u v : SA) : temO (parT u v) = none := by
  unfold temO
  rw [show listO 0 8 prmO [⟨false, (1, 0)⟩] = none from rfl, catO_none]
abbrev opT (v : SA) : Tem := ⟨[], no0, [(⟨25, 0, 0, 0, 0, []⟩, none, 0)], v, [], no0⟩
theorem opT_no (v : SA) : temO (opT v) = none := by
  unfold temO
  rw [show listO 1 128 insO [(⟨25, 0, 0, 0, 0, []⟩, none, 0)] = none from (listO_go (by decide)).trans (by rw [mapO_bad (o := insO) (x := (⟨25, 0, 0, 0, 0, []⟩, none, 0)) (insO_bad (by decide)) (by simp), catO_none']), catO_none']
theorem parT_in {u v t : SA} {L : List HP} : Ent (Vw 3 (slc u 1) 1 ([(⟨false, (1, 0)⟩ : Prm)].flatMap prmC) :: Vw 6 (slc v 1) 1 ([((⟨0, 0, 0, 0, 0, []⟩, none, 0) : YI)].flatMap insnC) :: Vw 3 (slc t 1) 1 ([parT u v].flatMap temC) :: L) (ModR (freshM [] no0 [parT u v] t [] no0 [] no0) :: L) :=
  ent_conj (A := ModR (freshM [] no0 [parT u v] t [] no0 [] no0)) (M := [_, _, _]) (fun B hB => by
    simp only [List.mem_cons, List.not_mem_nil, or_false] at hB
    rcases hB with rfl | rfl | rfl <;> exact up_vw _ _ _ _) fun k h => by
    simp only [List.mem_cons, List.not_mem_nil, or_false, forall_eq_or_imp, forall_eq] at h
    refine fresh_in (nil_vw 6 k) (all_none _ k) h.2.2 (all_one ⟨h.1, h.2.1, all_one (tru_ins _ rfl (by decide) k), ?_⟩) (nil_vw 2 k) (nil_vw 2 k) (all_none _ k)
    rw [ints_nil]; exact nil_vw 1 k
theorem opT_in {v t : SA} {L : List HP} : Ent (Vw 6 (slc v 1) 1 ([((⟨25, 0, 0, 0, 0, []⟩, none, 0) : YI)].flatMap insnC) :: Vw 3 (slc t 1) 1 ([opT v].flatMap temC) :: L) (ModR (freshM [] no0 [opT v] t [] no0 [] no0) :: L) :=
  ent_conj (A := ModR (freshM [] no0 [opT v] t [] no0 [] no0)) (M := [_, _]) (fun B hB => by
    simp only [List.mem_cons, List.not_mem_nil, or_false] at hB
    rcases hB with rfl | rfl <;> exact up_vw _ _ _ _) fun k h => by
    simp only [List.mem_cons, List.not_mem_nil, or_false, forall_eq_or_imp, forall_eq] at h
    refine fresh_in (nil_vw 6 k) (all_none _ k) h.2 (all_one ⟨nil_vw 3 k, h.1, all_one (tru_ins _ rfl (by decide) k), ?_⟩) (nil_vw 2 k) (nil_vw 2 k) (all_none _ k)
    rw [ints_nil]; exact nil_vw 1 k
theorem piece_in {l : List Nod} {N i b : Nat} {n : Nod} (hl : l.length = N) (hn : l[i]? = some n) {L : List HP} : Ent (Vw 6 (.slice (some ⟨b, 0, none⟩) N N) N (l.flatMap nodC) :: L) (Vw 6 (slc (some ⟨b, 0 + i * 6, none⟩, N - i) 1) 1 ([n].flatMap nodC) :: Vw 6 (.slice (some ⟨b, 0, none⟩) N N) N (l.flatMap nodC) :: L) := by
  subst hl
  exact (Ent.dup (Vw 6 (.slice (some ⟨b, 0, none⟩) l.length l.length) l.length (l.flatMap nodC))).trans (ent_turn fun k hk => vw_pick nodC_len hn k hk)
theorem pieceA_in {i b : Nat} {n : Ar} (hn : badA[i]? = some n) {L : List HP} : Ent (Vw 3 (.slice (some ⟨b, 0, none⟩) 4 4) 4 (badA.flatMap arC) :: L) (Vw 3 (slc (some ⟨b, 0 + i * 3, none⟩, 4 - i) 1) 1 ([n].flatMap arC) :: Vw 3 (.slice (some ⟨b, 0, none⟩) 4 4) 4 (badA.flatMap arC) :: L) :=
  (Ent.dup (Vw 3 (.slice (some ⟨b, 0, none⟩) 4 4) 4 (badA.flatMap arC))).trans (ent_turn fun k hk => vw_pick (l := badA) arC_len hn k hk)
theorem badA_ok : ∀ n ∈ badA, arOk n := fun n hn => by
  simp only [badA, List.mem_cons, List.not_mem_nil, or_false] at hn
  rcases hn with rfl | rfl | rfl | rfl <;> decide
theorem costs_rep {α : Type} (f : α → Nat) (x : α) : ∀ n : Nat, costs f (List.replicate n x) = n * f x
  | 0 => by simp [costs]
  | n + 1 => by rw [List.replicate_succ]; simp [costs, costs_rep f x n, Nat.succ_mul]; omega
theorem small_reps {n c s : Nat} (h : n ≤ 100 ∧ c ≤ 100 ∧ s ≤ 100) (a b d : SA) : smallM (freshM (List.replicate n zeroN) a [] no0 (List.replicate c (0, 0)) b (List.replicate s zeroS) d) := by
  refine ⟨?_, ?_, ?_, ?_⟩
  · show costs costN (List.replicate n zeroN) ≤ 100000
    rw [costs_rep, show costN zeroN = 100 from rfl]; omega
  · show 0 ≤ 400000
    decide
  · show costs (fun _ => 20) (List.replicate c ((0, 0) : Int × Int)) ≤ 10000
    rw [costs_rep]; omega
  · show costs costS (List.replicate s zeroS) ≤ 10000
    rw [costs_rep, show costS zeroS = 30 from rfl]; omega
theorem small_nodes {n : Nat} (h : n ≤ 100) (a : SA) : smallM (freshM (List.replicate n zeroN) a [] no0 [] no0 [] no0) := small_reps (n := n) (c := 0) (s := 0) (by omega) a no0 no0
theorem small_arg (n : Ar) (u v : SA) : smallM (freshM [] no0 [] no0 [] no0 [⟨0, [n], u⟩] v) := by
  refine ⟨?_, ?_, ?_, ?_⟩ <;> simp [costs, costN, costT, costS]
theorem small_par (u v t : SA) : smallM (freshM [] no0 [parT u v] t [] no0 [] no0) := by
  refine ⟨?_, ?_, ?_, ?_⟩ <;> simp [costs, costN, costT, costS]
theorem small_op (v t : SA) : smallM (freshM [] no0 [opT v] t [] no0 [] no0) := by
  refine ⟨?_, ?_, ?_, ?_⟩ <;> simp [costs, costN, costT, costS]
theorem small_start (v : SA) : smallM (freshM [] no0 [] no0 [] no0 [⟨16, [], no0⟩] v) := by
  refine ⟨?_, ?_, ?_, ?_⟩ <;> simp [costs, costN, costT, costS]
theorem nodes_in {n : Nat} {a : SA} {L : List HP} : Ent (Vw 6 (slc a n) n ((List.replicate n zeroN).flatMap nodC) :: L) (ModR (freshM (List.replicate n zeroN) a [] no0 [] no0 [] no0) :: L) :=
  ent_conj (A := ModR (freshM (List.replicate n zeroN) a [] no0 [] no0 [] no0)) (M := [_]) (fun B hB => by
    rw [List.mem_singleton] at hB; rw [hB]; exact up_vw _ _ _ _) fun k h => by
    refine fresh_in ?_ (zeroN_all n k) (nil_vw 3 k) (all_none _ k) (nil_vw 2 k) (nil_vw 2 k) (all_none _ k)
    rw [List.length_replicate]; exact h _ (List.mem_singleton.2 rfl)
/-- What the chapter's full module is laid as. -/
theorem full_put (a b d : Nat) : Ct Tryz.prog 9 #[.agg (modC (freshM (List.replicate 64 zeroN) (some ⟨a, 0, none⟩, 64) [] no0 (List.replicate 16 (0, 0)) (some ⟨b, 0, none⟩, 16) (List.replicate 8 zeroS) (some ⟨d, 0, none⟩, 8))).toArray]
    [Vw 6 (.slice (some ⟨a, 0, none⟩) 64 64) 64 ((List.replicate 64 zeroN).flatMap nodC), Vw 2 (.slice (some ⟨b, 0, none⟩) 16 16) 16 ((List.replicate 16 ((0, 0) : Int × Int)).flatMap edgeC), Vw 2 (.slice (some ⟨d, 0, none⟩) 8 8) 8 ((List.replicate 8 zeroS).flatMap staC)]
    (RetV (.tuple #[str fullL, .int .i64 0]) [ModR (freshM (List.replicate 64 zeroN) (some ⟨a, 0, none⟩, 64) [] no0 (List.replicate 16 (0, 0)) (some ⟨b, 0, none⟩, 16) (List.replicate 8 zeroS) (some ⟨d, 0, none⟩, 8))]) := by
  exact Ct.heap (full_in (a := (some ⟨a, 0, none⟩, 64)) (b := (some ⟨b, 0, none⟩, 16)) (d := (some ⟨d, 0, none⟩, 8))) (put_same full_D (full_same ..) (small_reps (by omega) _ _ _))
end Go.Proofs.YtickblndgihoeaaGreatDoor
