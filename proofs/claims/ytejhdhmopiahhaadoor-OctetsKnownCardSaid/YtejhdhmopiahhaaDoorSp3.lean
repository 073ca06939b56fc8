/- The rules of slices: literals, owned rows that grow, rows made whole, frozen rows that are read. -/
import Derived.Test.YtejhdhmopiahhaaDoorSp2
import Derived.Laws.OwnMore
namespace Go.Sp
open Go.RowKit

/-- A value of one cell. -/
class One (v : Value) : Prop where h : v.oneCell' = true
instance (b : Bool) : One (.bool b) := ⟨rfl⟩
instance (k : IntKind) (n : Int) : One (.int k n) := ⟨rfl⟩
instance (s : ByteArray) : One (.string s) := ⟨rfl⟩
instance (a : Option Addr) : One (.pointer a) := ⟨rfl⟩
instance (a : Option Addr) (n c : Nat) : One (.slice a n c) := ⟨rfl⟩
instance (r : Option Nat) : One (.map r) := ⟨rfl⟩
instance (f : Fn) (x y : Array Value) : One (.func f x y) := ⟨rfl⟩
instance : One .nilFunc := ⟨rfl⟩
instance : One .nilIface := ⟨rfl⟩
instance (t : TypeId) (v : Value) : One (.iface t v) := ⟨rfl⟩
theorem One.cells {v : Value} (h : v.oneCell' = true) : v.cells = #[v] := by cases v <;> first | rfl | simp [Value.oneCell'] at h

/-- The cells of values, one behind the other. -/
class Cat (vs : List Value) (n : Nat) (cs : outParam (List Value)) : Prop where h : (∀ v ∈ vs, v.cells.size = n) ∧ vs.flatMap (fun v => v.cells.toList) = cs
instance cat_nil (n : Nat) : Cat [] n [] := ⟨by simp⟩
instance cat_one (v : Value) (vs cs : List Value) [h1 : One v] [h2 : Cat vs 1 cs] : Cat (v :: vs) 1 (v :: cs) := ⟨by
  have := One.cells h1.h
  refine ⟨fun u hu => ?_, ?_⟩
  · rcases List.mem_cons.1 hu with rfl | hu
    · simp [this]
    · exact h2.h.1 u hu
  · simp [this, h2.h.2]⟩
class App (l r : List Value) (s : outParam (List Value)) : Prop where h : l ++ r = s
instance app_nil (r : List Value) : App [] r r := ⟨rfl⟩
instance app_cons (a : Value) (l r s : List Value) [h : App l r s] : App (a :: l) r (a :: s) := ⟨by simp [h.h]⟩
class Len (l : List Value) (n : outParam Nat) : Prop where h : l.length = n
instance len_nil : Len [] 0 := ⟨rfl⟩
instance len_cons (a : Value) (l : List Value) (n : Nat) [h : Len l n] : Len (a :: l) (n + 1) := ⟨by simp [h.h]⟩
instance cat_agg (l vs cs s : List Value) (n : Nat) [h0 : Cat vs n cs] [h1 : App l cs s] [h2 : Len l n] : Cat (.agg l.toArray :: vs) n s := ⟨by
  refine ⟨fun u hu => ?_, ?_⟩
  · rcases List.mem_cons.1 hu with rfl | hu
    · simpa [Value.cells] using h2.h
    · exact h0.h.1 u hu
  · rw [List.flatMap_cons, h0.h.2]; exact h1.h⟩

theorem fill_row : ∀ (vs : List Value) (size : Nat) (pre post : List Value), (∀ v ∈ vs, v.cells.size = size) → post.length = vs.length * size →
    ∀ k, pre.length = k * size → Instr.fill (fun i => some (i * size, size)) (pre ++ post).toArray ((vs.zipIdx k).map fun (v, i) => (i, v)) = some (pre ++ vs.flatMap (fun v => v.cells.toList)).toArray := by
  intro vs
  induction vs with
  | nil =>
    intro size pre post _ hp k _
    have : post = [] := by simpa using hp
    simp [Instr.fill, this]
  | cons v vs ih =>
    intro size pre post hv hp k hk
    have hsz : v.cells.size = size := hv v (by simp)
    have hp' : post.length = size + vs.length * size := by rw [hp]; simp [Nat.add_mul]; omega
    have hcells : ∀ (cs : List Value) (pre post : List Value), cs.length ≤ post.length →
        ((cs.zipIdx 0).foldl (fun (acc : Array Value) (x : Value × Nat) => acc.setIfInBounds (pre.length + x.2) x.1) (pre ++ post).toArray) = (pre ++ cs ++ post.drop cs.length).toArray := by
      intro cs
      have gen : ∀ (cs : List Value) (j : Nat) (pre mid post : List Value), mid.length = j → cs.length ≤ post.length →
          ((cs.zipIdx j).foldl (fun (acc : Array Value) (x : Value × Nat) => acc.setIfInBounds (pre.length + x.2) x.1) (pre ++ mid ++ post).toArray) = (pre ++ mid ++ cs ++ post.drop cs.length).toArray := by
        intro cs
        induction cs with
        | nil => intro j pre mid post _ _; simp
        | cons c cs ih2 =>
          intro j pre mid post hm hl
          obtain ⟨p, post, rfl⟩ : ∃ p l, post = p :: l := by cases post with | nil => simp at hl | cons p l => exact ⟨p, l, rfl⟩
          have hset : (pre ++ mid ++ p :: post).set (pre.length + j) c = pre ++ (mid ++ [c]) ++ post := by
            rw [← hm, ← List.length_append, List.set_append_right _ _ (Nat.le_refl _)]
            simp
          simp only [List.zipIdx_cons, List.foldl_cons, List.setIfInBounds_toArray, hset]
          rw [ih2 (j + 1) pre (mid ++ [c]) post (by simp [hm]) (by simpa using hl)]
          simp
      intro pre post hl
      have := gen cs 0 pre [] post rfl hl
      simpa using this
    have h1 : ((v.cells.zipIdx).foldl (fun (cs : Array Value) (x : Value × Nat) => cs.setIfInBounds (k * size + x.2) x.1) (pre ++ post).toArray) = (pre ++ v.cells.toList ++ post.drop size).toArray := by
      have h2 := hcells v.cells.toList pre post (by simp [hsz]; omega)
      rw [← hk]
      simp only [Array.length_toList, hsz] at h2
      rw [← h2, ← Array.foldl_toList, Array.toList_zipIdx]
    have h3 : ¬ (v.cells.size ≠ size || k * size + v.cells.size > (pre ++ post).toArray.size) = true := by
      simp [hsz, hk, hp']
    simp only [List.zipIdx_cons, List.map_cons, Instr.fill]
    rw [if_neg h3, h1, show pre ++ v.cells.toList ++ post.drop size = (pre ++ v.cells.toList) ++ post.drop size from rfl]
    rw [ih size (pre ++ v.cells.toList) (post.drop size) (fun u hu => hv u (by simp [hu])) (by simp [hp']) (k + 1) (by simp [hk, hsz, Nat.add_mul])]
    simp

/-- The parts of a literal, in order. -/
def inOrder : List (Nat × Operand) → Nat → Option (List Operand)
  | [], _ => some []
  | (i, x) :: l, k => match Nat.beq i k with | true => (inOrder l (k + 1)).map (x :: ·) | false => none
theorem inOrder_eq : ∀ (l : List (Nat × Operand)) (k : Nat) (xs : List Operand), inOrder l k = some xs → l = (xs.zipIdx k).map fun (x, i) => (i, x) := by
  intro l
  induction l with
  | nil => intro k xs h; simp [inOrder] at h; simp [← h]
  | cons p l ih =>
    intro k xs h
    obtain ⟨i, x⟩ := p
    simp only [inOrder] at h
    split at h
    · rename_i hb
      have := Nat.eq_of_beq_eq_true hb
      subst this
      rw [Option.map_eq_some_iff] at h
      obtain ⟨ys, h1, rfl⟩ := h
      simp [ih _ _ h1]
    · cases h

section
variable {P : Program} {N : Nat} {rd : Option Nat} {E : Env} {D : List Deferred} {L : List HP} {Q : Post} {next : Env → List Deferred → List HP → Prop}
variable {d : Option Nat} {ty : TypeId} {pos : String} {after : Array Edge} {g : Option (Nat × Bool)}

/-- A slice's literal, each of its elements told. -/
theorem JO_buildSlice {t e : TypeId} [TU P t (.slice e)] {z : Value} {n k : Nat} [TI P e z n k] {len : Nat} {parts : Array (Nat × Operand)} {xs : List Operand} {vs cs : List Value}
    (hp : inOrder parts.toList 0 = some xs) (hx : evs E xs = some vs) [hc : Cat vs n cs] (hl : vs.length = len) (hb : len * n ≤ 16777216) (hd : dok N d = true)
    (h : ∀ r, next (put E d (.slice (some ⟨r, 0, none⟩) len len)) D (pt r (.cells cs.toArray e (0, 0)) :: L)) :
    JO P N rd ⟨d, .buildSlice t len parts, ty, pos, after, g⟩ E D L next Q :=
  JO_value (fun c => by simp) hd fun F a w hr hs => by
    obtain ⟨i, h1, h2, h3, h4⟩ := TI.h (P := P) (t := e) (z := z) (n := n) (b := k)
    obtain ⟨c1, c2⟩ := hc.h
    have hparts : parts.toList.map (fun (x : Nat × Operand) => (x.1, a.eval x.2)) = (vs.zipIdx 0).map fun (v, i) => (i, v) := by
      have e1 := inOrder_eq _ _ _ hp
      have e2 := hr.evals hx
      rw [e1, ← e2]
      simp [List.zipIdx_map]
    have hfill : ∀ zc : Array Value, Instr.fill (fun i => some (i * n, n)) ((Array.range (len * n)).map (fun j => zc[j % zc.size]!)) (parts.toList.map (fun (x : Nat × Operand) => (x.1, a.eval x.2))) = some cs.toArray := by
      intro zc
      have := fill_row vs n [] ((Array.range (len * n)).map (fun j => zc[j % zc.size]!)).toList c1 (by simp [hl]) 0 (by simp)
      rw [c2, ← hparts] at this
      simp only [List.nil_append, Array.toArray_toList] at this
      exact this
    refine ⟨_, _, _, ?_, (hs.new (.cells cs.toArray e (0, 0))).swap, h _⟩
    have hb' : ¬ (16777216 < len * n) := by omega
    by_cases h0 : len * n = 0
    · have := hfill #[]
      rw [h0, show (Array.range 0).map (fun j => (#[] : Array Value)[j % (#[] : Array Value).size]!) = (Array.range 0).map (fun _ => (default : Value)) from by rw [Array.range_zero']; rfl] at this
      simp [execOp, Instr.buildSlice, run_underlying' (TU.h (P := P) (t := t)), run_sizeOf' h1, h3, h0, this, newRow]
    · simp [execOp, Instr.buildSlice, run_underlying' (TU.h (P := P) (t := t)), run_sizeOf' h1, h3, hb', h0, run_zeroValue' h1 h2, hfill, newRow]
end
end Go.Sp
