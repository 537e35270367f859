/- The walks of the layer ebcdic: what each of its functions answers, in terms of the plain tables. -/
import Derived.Test.YtnjackgfodpnjaaRows
import Derived.Test.YtnjackgfodpnjaaT
import Derived.WalkKit
import Derived.WalkSpells
import Derived.WalkLawsBesides
import Derived.Lib.Hide
namespace Go.Proofs.Ytnjackgfodpnjaa
open Go.RowKit

def cellsOf (l : List Int) : Array Value := (l.map (Value.int .u16)).toArray
/-- block b of the world holds the list of kind k -/
def Lies (w : World) (b : Nat) (k : Int) : Prop := w.heap[b]? = some (.cells (cellsOf ((tab k).drop 0)) 71)

theorem lies_cell {w : World} {b i : Nat} {k : Int} (h : Lies w b k) (hk : isK k = true) (h0 : 0 ≤ i) (hi : i < 256) :
    w.cell? ⟨b, i - 0, none⟩ = some (.int .u16 (val k i)) := by
  rw [cell_of_row w b (i - 0) _ _ _ h]
  have hl := tab_len k hk
  simp only [cellsOf, val, List.getElem?_toArray, List.getElem?_map, List.getElem?_drop]
  rw [show 0 + (i - 0) = i by omega, List.getElem?_eq_getElem (by omega)]
  simp [List.getD, List.getElem?_eq_getElem (show i < (tab k).length by omega)]
theorem lies_below {w w' : World} {b : Nat} {k : Int} (h : Lies w b k) {B : Nat} (hb : Below B w w') (hB : b < B) : Lies w' b k := (hb.block b hB).trans h
theorem lies_lt {w : World} {b : Nat} {k : Int} (h : Lies w b k) : b < w.heap.size := (Array.getElem?_eq_some_iff.1 h).1

/-- an array literal whose cells are known at once -/
theorem wpList_build_known {P : Program} {ops : Array Oper} {rest : List Oper} {o : Oper} {a : Act} {w : World} {Q : Exit → Act → World → Prop} (hgd : o.guard = none) (t : TypeId) (parts : Array (Nat × Operand)) (ho : o.op = .build t parts)
    (cells : Array Value) (hf : P.built t (parts.map fun (i, x) => (i, a.eval x)).toList = some cells) (h : wpList P ops Q rest (a.put o.dst (.agg cells)) w) : wpList P ops Q (o :: rest) a w :=
  wpList_plain hgd fun _ hK => by
    unfold Oper.wp execOp
    simp only [ho, Sem.run_bind, run_build w t _ cells hf, Result.andThen_ok]
    exact hK _ _ h
set_option maxRecDepth 100000

set_option maxHeartbeats 400000 in
theorem list_70 (w : World) :
    Calls Try.prog 30 #[] w fun e w' => e = .returned (.pointer (some ⟨w.heap.size, 0, none⟩)) ∧ w' = w.alloc (.cells (cellsOf ((tab 70).drop 0)) 71) := by
  go_enter Try.func30, Try.ntmps30
  go_wp2_with (refine wpList_build_known rfl 71 _ rfl (cellsOf ((tab 70).drop 0)) (by kernel_rfl) ?_)
  go_ret
  exact ⟨rfl, rfl⟩

set_option maxHeartbeats 400000 in
theorem list_71 (w : World) :
    Calls Try.prog 31 #[] w fun e w' => e = .returned (.pointer (some ⟨w.heap.size, 0, none⟩)) ∧ w' = w.alloc (.cells (cellsOf ((tab 71).drop 0)) 71) := by
  go_enter Try.func31, Try.ntmps31
  go_wp2_with (refine wpList_build_known rfl 71 _ rfl (cellsOf ((tab 71).drop 0)) (by kernel_rfl) ?_)
  go_ret
  exact ⟨rfl, rfl⟩

set_option maxHeartbeats 400000 in
theorem list_72 (w : World) :
    Calls Try.prog 32 #[] w fun e w' => e = .returned (.pointer (some ⟨w.heap.size, 0, none⟩)) ∧ w' = w.alloc (.cells (cellsOf ((tab 72).drop 0)) 71) := by
  go_enter Try.func32, Try.ntmps32
  go_wp2_with (refine wpList_build_known rfl 71 _ rfl (cellsOf ((tab 72).drop 0)) (by kernel_rfl) ?_)
  go_ret
  exact ⟨rfl, rfl⟩

def OfSays (w : World) (k : Int) (w' : World) : Prop := Lies w' w.heap.size k ∧ Below w.heap.size w w' ∧ w.heap.size < w'.heap.size
theorem ofSays (w : World) (k : Int) : OfSays w k (w.alloc (.cells (cellsOf ((tab k).drop 0)) 71)) :=
  ⟨heap_alloc_new w _, (Below.refl _ _).alloc (Nat.le_refl _) _, by simp⟩
set_option maxHeartbeats 400000 in
theorem listOf_yes (k : Int) (h : isK k = true) (w : World) :
    Calls Try.prog 24 #[.int .i64 k] w fun e w' => e = .returned (.pointer (some ⟨w.heap.size, 0, none⟩)) ∧ OfSays w k w' := by
  rcases (isK_iff k).1 h with rfl | rfl | rfl

  · go_enter Try.func24, Try.ntmps24
    go_wp2_with (go_at_call 30; refine (list_70 _).mono ?_; rintro e w' ⟨rfl, rfl⟩)
    go_ret
    exact ⟨rfl, ofSays w 70⟩
  · go_enter Try.func24, Try.ntmps24
    go_wp2_with (go_at_call 31; refine (list_71 _).mono ?_; rintro e w' ⟨rfl, rfl⟩)
    go_ret
    exact ⟨rfl, ofSays w 71⟩
  · go_enter Try.func24, Try.ntmps24
    go_wp2_with (go_at_call 32; refine (list_72 _).mono ?_; rintro e w' ⟨rfl, rfl⟩)
    go_ret
    exact ⟨rfl, ofSays w 72⟩
set_option maxHeartbeats 400000 in
theorem listOf_no (k : Int) (h : isK k = false) (w : World) :
    Calls Try.prog 24 #[.int .i64 k] w fun e w' => e = .returned (.pointer none) ∧ w = w' := by
  have hne := isK_no k h
  clear h
  go_enter Try.func24, Try.ntmps24
  go_wp2_with fail
  go_ret
  exact ⟨rfl, rfl⟩
end Go.Proofs.Ytnjackgfodpnjaa
