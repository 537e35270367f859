/- The walks of the layer dos: what each of its functions answers, in terms of the plain tables. -/
import Derived.Test.YtaopfjnmgbdkiaaRows
import Derived.Test.YtaopfjnmgbdkiaaT
import Derived.WalkKit
import Derived.WalkSpells
import Derived.WalkLawsBesides
import Derived.Lib.Hide
namespace Go.Proofs.Ytaopfjnmgbdkiaa
open Go.RowKit

def cellsOf (l : List Int) : Array Value := (l.map (Value.int .u16)).toArray
/-- block b of the world holds the list of kind k -/
def Lies (w : World) (b : Nat) (k : Int) : Prop := w.heap[b]? = some (.cells (cellsOf ((tab k).drop 128)) 69)

theorem lies_cell {w : World} {b i : Nat} {k : Int} (h : Lies w b k) (hk : isK k = true) (h0 : 128 ≤ i) (hi : i < 256) :
    w.cell? ⟨b, i - 128, none⟩ = some (.int .u16 (val k i)) := by
  rw [cell_of_row w b (i - 128) _ _ _ h]
  have hl := tab_len k hk
  simp only [cellsOf, val, List.getElem?_toArray, List.getElem?_map, List.getElem?_drop]
  rw [show 128 + (i - 128) = i by omega, List.getElem?_eq_getElem (by omega)]
  simp [List.getD, List.getElem?_eq_getElem (show i < (tab k).length by omega)]
theorem lies_below {w w' : World} {b : Nat} {k : Int} (h : Lies w b k) {B : Nat} (hb : Below B w w') (hB : b < B) : Lies w' b k := (hb.block b hB).trans h
theorem lies_lt {w : World} {b : Nat} {k : Int} (h : Lies w b k) : b < w.heap.size := (Array.getElem?_eq_some_iff.1 h).1

/-- an array literal whose cells are known at once -/
theorem wpList_build_known {P : Program} {ops : Array Oper} {rest : List Oper} {o : Oper} {a : Act} {w : World} {Q : Exit → Act → World → Prop} (hgd : o.guard = none) (t : TypeId) (parts : Array (Nat × Operand)) (ho : o.op = .build t parts)
    (cells : Array Value) (hf : P.built t (parts.map fun (i, x) => (i, a.eval x)).toList = some cells) (h : wpList P ops Q rest (a.put o.dst (.agg cells)) w) : wpList P ops Q (o :: rest) a w :=
  wpList_plain hgd fun _ hK => by
    unfold Oper.wp execOp
    simp only [ho, Sem.run_bind, run_build w t _ cells hf, Result.andThen_ok]
    exact hK _ _ h
set_option maxRecDepth 100000

set_option maxHeartbeats 400000 in
theorem list_60 (w : World) :
    Calls Try.prog 29 #[] w fun e w' => e = .returned (.pointer (some ⟨w.heap.size, 0, none⟩)) ∧ w' = w.alloc (.cells (cellsOf ((tab 60).drop 128)) 69) := by
  go_enter Try.func29, Try.ntmps29
  go_wp2_with (refine wpList_build_known rfl 69 _ rfl (cellsOf ((tab 60).drop 128)) (by kernel_rfl) ?_)
  go_ret
  exact ⟨rfl, rfl⟩

set_option maxHeartbeats 400000 in
theorem list_61 (w : World) :
    Calls Try.prog 30 #[] w fun e w' => e = .returned (.pointer (some ⟨w.heap.size, 0, none⟩)) ∧ w' = w.alloc (.cells (cellsOf ((tab 61).drop 128)) 69) := by
  go_enter Try.func30, Try.ntmps30
  go_wp2_with (refine wpList_build_known rfl 69 _ rfl (cellsOf ((tab 61).drop 128)) (by kernel_rfl) ?_)
  go_ret
  exact ⟨rfl, rfl⟩

set_option maxHeartbeats 400000 in
theorem list_62 (w : World) :
    Calls Try.prog 31 #[] w fun e w' => e = .returned (.pointer (some ⟨w.heap.size, 0, none⟩)) ∧ w' = w.alloc (.cells (cellsOf ((tab 62).drop 128)) 69) := by
  go_enter Try.func31, Try.ntmps31
  go_wp2_with (refine wpList_build_known rfl 69 _ rfl (cellsOf ((tab 62).drop 128)) (by kernel_rfl) ?_)
  go_ret
  exact ⟨rfl, rfl⟩

set_option maxHeartbeats 400000 in
theorem list_63 (w : World) :
    Calls Try.prog 32 #[] w fun e w' => e = .returned (.pointer (some ⟨w.heap.size, 0, none⟩)) ∧ w' = w.alloc (.cells (cellsOf ((tab 63).drop 128)) 69) := by
  go_enter Try.func32, Try.ntmps32
  go_wp2_with (refine wpList_build_known rfl 69 _ rfl (cellsOf ((tab 63).drop 128)) (by kernel_rfl) ?_)
  go_ret
  exact ⟨rfl, rfl⟩

set_option maxHeartbeats 400000 in
theorem list_64 (w : World) :
    Calls Try.prog 33 #[] w fun e w' => e = .returned (.pointer (some ⟨w.heap.size, 0, none⟩)) ∧ w' = w.alloc (.cells (cellsOf ((tab 64).drop 128)) 69) := by
  go_enter Try.func33, Try.ntmps33
  go_wp2_with (refine wpList_build_known rfl 69 _ rfl (cellsOf ((tab 64).drop 128)) (by kernel_rfl) ?_)
  go_ret
  exact ⟨rfl, rfl⟩

set_option maxHeartbeats 400000 in
theorem list_65 (w : World) :
    Calls Try.prog 34 #[] w fun e w' => e = .returned (.pointer (some ⟨w.heap.size, 0, none⟩)) ∧ w' = w.alloc (.cells (cellsOf ((tab 65).drop 128)) 69) := by
  go_enter Try.func34, Try.ntmps34
  go_wp2_with (refine wpList_build_known rfl 69 _ rfl (cellsOf ((tab 65).drop 128)) (by kernel_rfl) ?_)
  go_ret
  exact ⟨rfl, rfl⟩

set_option maxHeartbeats 400000 in
theorem list_66 (w : World) :
    Calls Try.prog 35 #[] w fun e w' => e = .returned (.pointer (some ⟨w.heap.size, 0, none⟩)) ∧ w' = w.alloc (.cells (cellsOf ((tab 66).drop 128)) 69) := by
  go_enter Try.func35, Try.ntmps35
  go_wp2_with (refine wpList_build_known rfl 69 _ rfl (cellsOf ((tab 66).drop 128)) (by kernel_rfl) ?_)
  go_ret
  exact ⟨rfl, rfl⟩

def OfSays (w : World) (k : Int) (w' : World) : Prop := Lies w' w.heap.size k ∧ Below w.heap.size w w' ∧ w.heap.size < w'.heap.size
theorem ofSays (w : World) (k : Int) : OfSays w k (w.alloc (.cells (cellsOf ((tab k).drop 128)) 69)) :=
  ⟨heap_alloc_new w _, (Below.refl _ _).alloc (Nat.le_refl _) _, by simp⟩
set_option maxHeartbeats 400000 in
theorem listOf_yes (k : Int) (h : isK k = true) (w : World) :
    Calls Try.prog 23 #[.int .i64 k] w fun e w' => e = .returned (.pointer (some ⟨w.heap.size, 0, none⟩)) ∧ OfSays w k w' := by
  rcases (isK_iff k).1 h with rfl | rfl | rfl | rfl | rfl | rfl | rfl

  · go_enter Try.func23, Try.ntmps23
    go_wp2_with (go_at_call 29; refine (list_60 _).mono ?_; rintro e w' ⟨rfl, rfl⟩)
    go_ret
    exact ⟨rfl, ofSays w 60⟩
  · go_enter Try.func23, Try.ntmps23
    go_wp2_with (go_at_call 30; refine (list_61 _).mono ?_; rintro e w' ⟨rfl, rfl⟩)
    go_ret
    exact ⟨rfl, ofSays w 61⟩
  · go_enter Try.func23, Try.ntmps23
    go_wp2_with (go_at_call 31; refine (list_62 _).mono ?_; rintro e w' ⟨rfl, rfl⟩)
    go_ret
    exact ⟨rfl, ofSays w 62⟩
  · go_enter Try.func23, Try.ntmps23
    go_wp2_with (go_at_call 32; refine (list_63 _).mono ?_; rintro e w' ⟨rfl, rfl⟩)
    go_ret
    exact ⟨rfl, ofSays w 63⟩
  · go_enter Try.func23, Try.ntmps23
    go_wp2_with (go_at_call 33; refine (list_64 _).mono ?_; rintro e w' ⟨rfl, rfl⟩)
    go_ret
    exact ⟨rfl, ofSays w 64⟩
  · go_enter Try.func23, Try.ntmps23
    go_wp2_with (go_at_call 34; refine (list_65 _).mono ?_; rintro e w' ⟨rfl, rfl⟩)
    go_ret
    exact ⟨rfl, ofSays w 65⟩
  · go_enter Try.func23, Try.ntmps23
    go_wp2_with (go_at_call 35; refine (list_66 _).mono ?_; rintro e w' ⟨rfl, rfl⟩)
    go_ret
    exact ⟨rfl, ofSays w 66⟩
set_option maxHeartbeats 400000 in
theorem listOf_no (k : Int) (h : isK k = false) (w : World) :
    Calls Try.prog 23 #[.int .i64 k] w fun e w' => e = .returned (.pointer none) ∧ w = w' := by
  have hne := isK_no k h
  clear h
  go_enter Try.func23, Try.ntmps23
  go_wp2_with fail
  go_ret
  exact ⟨rfl, rfl⟩
end Go.Proofs.Ytaopfjnmgbdkiaa
