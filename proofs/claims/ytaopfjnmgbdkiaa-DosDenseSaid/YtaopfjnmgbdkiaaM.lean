/- A table of bytes in memory (its struct, its row of scalars, its map), step by step, with no walk in sight; and what its map says, in terms of the plain tables. -/
import Derived.Test.YtaopfjnmgbdkiaaH
import Derived.Test.YtaopfjnmgbdkiaaK
import Derived.Maps.Own
import Derived.Maps.OwnOps
import Derived.Maps.OwnSet
import Derived.Maps.Views
import Derived.Lib.OthersKept
import Derived.Lib.ConvBytes
namespace Go.Proofs.Ytaopfjnmgbdkiaa
open Go.RowKit Go.Maps

/-- a kind's list as natural numbers -/
def lst (k : Int) : List Nat := (tab k).map Int.toNat
theorem lst_len (k : Int) (h : isK k = true) : (lst k).length = 256 := by simp [lst, tab_len k h]
theorem lst_at (k : Int) (h : isK k = true) (i : Nat) (hi : i < (lst k).length) : (((lst k)[i] : Nat) : Int) = val k i := by
  have hl := tab_len k h
  have hi' : i < (tab k).length := by simpa [lst] using hi
  have hb := (tab_bd k h i (by omega)).1
  have e : val k i = (tab k)[i] := by simp [val, List.getD_eq_getElem?_getD, List.getElem?_eq_getElem hi']
  rw [e] at hb ⊢
  simp only [lst, List.getElem_map]
  omega
theorem tab_ok : ∀ k : Int, isK k = true → ∀ b < 256, val k b < 55296 ∨ 57344 ≤ val k b := by
  intro k h
  rcases (isK_iff k).1 h with rfl | rfl | rfl | rfl | rfl | rfl | rfl <;> decide +kernel
theorem lst_ok (k : Int) (h : isK k = true) : ∀ u ∈ lst k, okU u := by
  intro u hu
  obtain ⟨i, hi, rfl⟩ := List.getElem_of_mem hu
  have e := lst_at k h i hi
  have hl := lst_len k h
  have hb := (tab_bd k h i (by omega)).2
  have ho := tab_ok k h i (by omega)
  unfold okU
  omega
/-- the least of the first n bytes that stands for u -/
def srch (k u : Int) (n : Nat) : Option Nat := if u = 65533 then none else fndF k u n 0
theorem fndF_snoc (k u : Int) : ∀ n i, fndF k u (n + 1) i = (match fndF k u n i with | some j => some j | none => if val k (i + n) = u then some (i + n) else none) := by
  intro n
  induction n with
  | zero => intro i; by_cases h : val k i = u <;> simp [fndF, h]
  | succ n ih =>
    intro i
    by_cases h : val k i = u
    · rw [fndF_hit h, fndF_hit h]
    · rw [fndF_miss h, ih (i + 1), fndF_miss h, show i + 1 + n = i + (n + 1) by omega]
theorem srch_same {k u : Int} {n : Nat} (h : (srch k u n).isSome = true ∨ u = 65533 ∨ val k n ≠ u) : srch k u (n + 1) = srch k u n := by
  unfold srch at *
  by_cases hu : u = 65533
  · rw [if_pos hu, if_pos hu]
  · rw [if_neg hu, if_neg hu] at *
    rw [fndF_snoc]
    cases hf : fndF k u n 0 with
    | some j => rfl
    | none =>
      rw [hf] at h
      have h' : val k n ≠ u := by
        rcases h with h | h | h
        · cases h
        · exact absurd h hu
        · exact h
      simp [h']
theorem srch_new {k u : Int} {n : Nat} (h : srch k u n = none) (hu : u ≠ 65533) (hv : val k n = u) : srch k u (n + 1) = some n := by
  unfold srch at *
  rw [if_neg hu] at h ⊢
  rw [fndF_snoc, h]
  simp [hv]
theorem srch_end {k u : Int} (hk : isK k = true) : fnd k u = srch k u 256 := by
  unfold srch
  by_cases hu : u = 65533
  · rw [if_pos hu, fnd_none (.inr hu)]
  · rw [if_neg hu, fnd_eq hk hu]
/-- what the map says -/
def Says (E : DataW Unit) (k : Int) (n : Nat) : Prop :=
  IsMap E ∧ ∀ u : Int, has E (.int .i32 u) = (srch k u n).isSome ∧ ∀ j, srch k u n = some j → ∀ z, E.atKey (.int .i32 u) z = .lit (.int .u8 (j : Int))
theorem says_start (k : Int) : Says (.map []) k 0 := by
  refine ⟨isMap_empty, fun u => ?_⟩
  have e : srch k u 0 = none := by unfold srch; split <;> rfl
  rw [e]
  exact ⟨rfl, fun j h => by cases h⟩
theorem says_skip {E : DataW Unit} {k : Int} {n : Nat} (h : Says E k n) (hs : has E (.int .i32 (val k n)) = true ∨ val k n = 65533) : Says E k (n + 1) := by
  refine ⟨h.1, fun u => ?_⟩
  have e : srch k u (n + 1) = srch k u n := by
    by_cases hu : val k n = u
    · subst hu
      rcases hs with hs | hs
      · exact srch_same (.inl (by rw [← (h.2 _).1]; exact hs))
      · exact srch_same (.inr (.inl hs))
    · exact srch_same (.inr (.inr hu))
  rw [e]
  exact h.2 u
theorem says_put {E : DataW Unit} {k : Int} {n : Nat} (h : Says E k n) (hs : has E (.int .i32 (val k n)) = false) (hu : val k n ≠ 65533) :
    Says (E.put (.int .i32 (val k n)) (.lit (.int .u8 (n : Int)))) k (n + 1) := by
  refine ⟨h.1.put _ _, fun u => ?_⟩
  by_cases e : val k n = u
  · subst e
    have hnone : srch k (val k n) n = none := by
      have := (h.2 (val k n)).1
      rw [hs] at this
      cases hq : srch k (val k n) n with
      | none => rfl
      | some j => rw [hq] at this; cases this
    rw [srch_new hnone hu rfl]
    refine ⟨has_put_same h.1 (show WideAt.IsKeyLit (.int .i32 (val k n)) from trivial) _, fun j hj z => ?_⟩
    obtain rfl : n = j := by simpa using hj
    exact atKey_put_same h.1 (show WideAt.IsKeyLit (.int .i32 (val k n)) from trivial) _ _
  · rw [srch_same (.inr (.inr e))]
    have hne : (Lit.int .i32 u) ≠ (Lit.int .i32 (val k n)) := fun h => e (by simpa using h.symm)
    rw [has_put_other hne]
    refine ⟨(h.2 u).1, fun j hj z => ?_⟩
    rw [atKey_put_other hne]
    exact (h.2 u).2 j hj z

/-- the table while it is being made: b its map, b + 1 its struct, b + 2 the range's iterator -/
structure Tab (w wr : World) (b : Nat) (S : ByteArray) (p : Nat) (v : Value) (k : Int) (n m : Nat) (E : DataW Unit) : Prop where
  lo : w.heap.size ≤ b
  below : Below w.heap.size w wr
  it : wr.heap[b + 2]? = some (.stringIter S p)
  tb : wr.heap[b + 1]? = some (.cells #[.int .i64 0, .string S, v, .map (some b)] 53 (0, 0))
  row : wr.ownsRow (b + 3) 21 1 v n (rowV k n)
  map : wr.ownsMap Try.prog 21 (plainElem Try.prog 5) b m E
theorem Tab.next {w wr : World} {b p n m : Nat} {S : ByteArray} {v : Value} {k : Int} {E : DataW Unit} (h : Tab w wr b S p v k n m E) (p' : Nat) : Tab w (wr.iterAt (b + 2) S p') b S p' v k n m E := by
  have g : ∀ i, i ≠ b + 2 → (wr.iterAt (b + 2) S p').heap[i]? = wr.heap[i]? := fun i hi => Lib.iterAt_other _ _ _ _ _ hi
  have lo := h.lo
  have G : wr.grownBy (wr.iterAt (b + 2) S p') (some (b + 2)) := ⟨rfl, rfl, rfl, by rw [Lib.iterAt_size]; exact Nat.le_refl _, fun i _ hi => g i (fun e => hi (by rw [e]))⟩
  refine ⟨lo, Lib.below_iterAt h.below (by omega) _ _, Lib.iterAt_heap _ _ _ _ _ h.it, (g _ (by omega)).trans h.tb, h.row.kept G ?_, h.map.kept G (by first | (simp; done) | (simp; omega))⟩
  by_cases hv : v.ownBlock = none
  · exact .inl hv
  · exact .inr (fun e => by have := (h.row.lt _ e).1; omega)
theorem Tab.append {w wr w1 : World} {b p n m : Nat} {S : ByteArray} {v v' : Value} {k : Int} {E : DataW Unit} {o : Obj} (h : Tab w wr b S p v k n m E)
    (ho : w1.ownsRow (b + 3) 21 1 v' (n + 1) (rowV k n ++ [.int .i32 (val k n)])) (hg : (wr.alloc o).grownBy w1 v.ownBlock) :
    Tab w (w1.setCell ⟨b + 1, 2, none⟩ v') b S p v' k (n + 1) m E ∧ w1.heap[b + 1]? = some (.cells #[.int .i64 0, .string S, v, .map (some b)] 53 (0, 0)) := by
  have lo := h.lo
  have hlt := (Array.getElem?_eq_some_iff.1 h.it).1
  have hne : ∀ i, i < b + 3 → some i ≠ v.ownBlock := fun i hi e => by have := (h.row.lt _ e.symm).1; omega
  have hb : ∀ i, i < b + 3 → w1.heap[i]? = wr.heap[i]? := fun i hi => (hg.block i (by simp; omega) (hne i hi)).trans (Below.heap_alloc _ _ _ (by omega))
  have htb := (hb (b + 1) (by omega)).trans h.tb
  have hs : ∀ i, i ≠ b + 1 → (w1.setCell ⟨b + 1, 2, none⟩ v').heap[i]? = w1.heap[i]? := fun i hi => heap_setCell_other w1 ⟨b + 1, 2, none⟩ i v' hi
  have hrl := ho.lt
  have G : w1.grownBy (w1.setCell ⟨b + 1, 2, none⟩ v') (some (b + 1)) := ⟨rfl, rfl, rfl, by simp, fun i _ hi => hs i (fun e => hi (by rw [e]))⟩
  have hsz := h.below.size
  refine ⟨⟨lo, ((h.below.alloc hsz o).grown hg (by simp; omega) (fun j hj => by have := (h.row.lt _ hj).1; omega)).setCell (by show w.heap.size ≤ b + 1; omega) _, ?_, ?_, ?_, ?_⟩, htb⟩
  · exact (hs _ (by omega)).trans ((hb _ (by omega)).trans h.it)
  · rw [heap_setCell_same w1 (b + 1) 2 _ _ v' htb]
    rfl
  · rw [rowV_succ]
    refine ho.kept G ?_
    by_cases hv : v'.ownBlock = none
    · exact .inl hv
    · exact .inr (fun e => by have := (hrl _ e).1; omega)
  · have h1 : (wr.alloc o).ownsMap Try.prog 21 (plainElem Try.prog 5) b m E := h.map.alloc o
    exact (h1.kept hg (hne b (by omega))).kept G (by simp)
theorem Tab.put {w wr w1 : World} {b p n m : Nat} {S : ByteArray} {v : Value} {k : Int} {E E' : DataW Unit} (h : Tab w wr b S p v k n m E)
    (ho : w1.ownsMap Try.prog 21 (plainElem Try.prog 5) b (m + 1) E') (hg : wr.grownBy w1 (some b)) : Tab w w1 b S p v k n (m + 1) E' := by
  have lo := h.lo
  have hlt := (Array.getElem?_eq_some_iff.1 h.it).1
  have hb : ∀ i, i < wr.heap.size → i ≠ b → w1.heap[i]? = wr.heap[i]? := fun i hi hne => hg.block i hi (by simpa using hne)
  refine ⟨lo, h.below.grown hg h.below.size (fun j hj => by simp at hj; omega), (hb _ (by omega) (by omega)).trans h.it, (hb _ (by omega) (by omega)).trans h.tb, h.row.kept hg ?_, ho⟩
  by_cases hv : v.ownBlock = none
  · exact .inl hv
  · exact .inr (fun e => by have := (h.row.lt _ e).1; omega)
theorem Tab.more {w wr : World} {b p n m m' : Nat} {S : ByteArray} {v : Value} {k : Int} {E : DataW Unit} (h : Tab w wr b S p v k n m E) (hm : m ≤ m') : Tab w wr b S p v k n m' E :=
  ⟨h.lo, h.below, h.it, h.tb, h.row, h.map.mono hm⟩
/-- the table made -/
def Made (W : World) (t : Nat) (k : Int) : Prop :=
  ∃ b g c S E, W.heap[t]? = some (.cells #[.int .i64 0, .string S, .slice (some ⟨g, 0, none⟩) 256 c, .map (some b)] 53 (0, 0)) ∧ t < W.heap.size ∧ g < W.heap.size ∧ b < W.heap.size ∧
    (∀ j, j < 256 → W.cell? ⟨g, j, none⟩ = some (.int .i32 (val k j))) ∧ W.ownsMap Try.prog 21 (plainElem Try.prog 5) b 256 E ∧ Says E k 256
theorem made_below {W W' : World} {t : Nat} {k : Int} (h : Made W t k) (hb : Below W.heap.size W W') : Made W' t k := by
  obtain ⟨b, g, c, S, E, h1, h2, h3, h4, h5, h6, h7⟩ := h
  have hs := hb.size
  exact ⟨b, g, c, S, E, (hb.block t h2).trans h1, by omega, by omega, by omega, fun j hj => (hb.cell (p := ⟨g, j, none⟩) h3).trans (h5 j hj),
    h6.kept (row := none) ⟨hb.os, hb.tape, hb.output, hb.size, fun i hi _ => hb.block i hi⟩ (by simp), h7⟩
theorem Tab.made {w wr : World} {b p m : Nat} {S : ByteArray} {v : Value} {k : Int} {E : DataW Unit} (h : Tab w wr b S p v k 256 m E) (hm : m ≤ 256) (hE : Says E k 256) : Made wr (b + 1) k := by
  have h1 := (Array.getElem?_eq_some_iff.1 h.tb).1
  have hr := h.row
  rcases h.row.2 with ⟨_, h0⟩ | ⟨g, c, cur, rfl, _, hg, _⟩
  · omega
  · refine ⟨b, g, c, S, E, h.tb, h1, (Array.getElem?_eq_some_iff.1 hg).1, by omega, fun j hj => ?_, h.map.mono hm, hE⟩
    rw [hr.cellAt j (by omega)]
    simp [rowV, List.getElem?_map, List.getElem?_range hj]
end Go.Proofs.Ytaopfjnmgbdkiaa
