/- The walks of the layer iso: what each of its functions answers, in terms of the plain tables. -/
import Derived.Test.YtageajpchmgehaaRows
import Derived.Test.YtageajpchmgehaaT
import Derived.WalkKit
import Derived.WalkSpells
import Derived.WalkLawsBesides
import Derived.Lib.Hide
namespace Go.Proofs.Ytageajpchmgehaa
open Go.RowKit

def cellsOf (l : List Int) : Array Value := (l.map (Value.int .u16)).toArray
/-- block b of the world holds the list of kind k -/
def Lies (w : World) (b : Nat) (k : Int) : Prop := w.heap[b]? = some (.cells (cellsOf ((tab k).drop 160)) 69)

theorem lies_cell {w : World} {b i : Nat} {k : Int} (h : Lies w b k) (hk : isK k = true) (h0 : 160 ≤ i) (hi : i < 256) :
    w.cell? ⟨b, i - 160, none⟩ = some (.int .u16 (val k i)) := by
  rw [cell_of_row w b (i - 160) _ _ _ h]
  have hl := tab_len k hk
  simp only [cellsOf, val, List.getElem?_toArray, List.getElem?_map, List.getElem?_drop]
  rw [show 160 + (i - 160) = i by omega, List.getElem?_eq_getElem (by omega)]
  simp [List.getD, List.getElem?_eq_getElem (show i < (tab k).length by omega)]
theorem lies_below {w w' : World} {b : Nat} {k : Int} (h : Lies w b k) {B : Nat} (hb : Below B w w') (hB : b < B) : Lies w' b k := (hb.block b hB).trans h
theorem lies_lt {w : World} {b : Nat} {k : Int} (h : Lies w b k) : b < w.heap.size := (Array.getElem?_eq_some_iff.1 h).1

/-- an array literal whose cells are known at once -/
theorem wpList_build_known {P : Program} {ops : Array Oper} {rest : List Oper} {o : Oper} {a : Act} {w : World} {Q : Exit → Act → World → Prop} (hgd : o.guard = none) (t : TypeId) (parts : Array (Nat × Operand)) (ho : o.op = .build t parts)
    (cells : Array Value) (hf : P.built t (parts.map fun (i, x) => (i, a.eval x)).toList = some cells) (h : wpList P ops Q rest (a.put o.dst (.agg cells)) w) : wpList P ops Q (o :: rest) a w :=
  wpList_plain hgd fun _ hK => by
    unfold Oper.wp execOp
    simp only [ho, Sem.run_bind, run_build w t _ cells hf, Result.andThen_ok]
    exact hK _ _ h
set_option maxRecDepth 100000

set_option maxHeartbeats 400000 in
theorem list_21 (w : World) :
    Calls Try.prog 29 #[] w fun e w' => e = .returned (.pointer (some ⟨w.heap.size, 0, none⟩)) ∧ w' = w.alloc (.cells (cellsOf ((tab 21).drop 160)) 69) := by
  go_enter Try.func29, Try.ntmps29
  go_wp2_with (refine wpList_build_known rfl 69 _ rfl (cellsOf ((tab 21).drop 160)) (by kernel_rfl) ?_)
  go_ret
  exact ⟨rfl, rfl⟩

set_option maxHeartbeats 400000 in
theorem list_22 (w : World) :
    Calls Try.prog 30 #[] w fun e w' => e = .returned (.pointer (some ⟨w.heap.size, 0, none⟩)) ∧ w' = w.alloc (.cells (cellsOf ((tab 22).drop 160)) 69) := by
  go_enter Try.func30, Try.ntmps30
  go_wp2_with (refine wpList_build_known rfl 69 _ rfl (cellsOf ((tab 22).drop 160)) (by kernel_rfl) ?_)
  go_ret
  exact ⟨rfl, rfl⟩

set_option maxHeartbeats 400000 in
theorem list_23 (w : World) :
    Calls Try.prog 31 #[] w fun e w' => e = .returned (.pointer (some ⟨w.heap.size, 0, none⟩)) ∧ w' = w.alloc (.cells (cellsOf ((tab 23).drop 160)) 69) := by
  go_enter Try.func31, Try.ntmps31
  go_wp2_with (refine wpList_build_known rfl 69 _ rfl (cellsOf ((tab 23).drop 160)) (by kernel_rfl) ?_)
  go_ret
  exact ⟨rfl, rfl⟩

set_option maxHeartbeats 400000 in
theorem list_24 (w : World) :
    Calls Try.prog 32 #[] w fun e w' => e = .returned (.pointer (some ⟨w.heap.size, 0, none⟩)) ∧ w' = w.alloc (.cells (cellsOf ((tab 24).drop 160)) 69) := by
  go_enter Try.func32, Try.ntmps32
  go_wp2_with (refine wpList_build_known rfl 69 _ rfl (cellsOf ((tab 24).drop 160)) (by kernel_rfl) ?_)
  go_ret
  exact ⟨rfl, rfl⟩

set_option maxHeartbeats 400000 in
theorem list_25 (w : World) :
    Calls Try.prog 33 #[] w fun e w' => e = .returned (.pointer (some ⟨w.heap.size, 0, none⟩)) ∧ w' = w.alloc (.cells (cellsOf ((tab 25).drop 160)) 69) := by
  go_enter Try.func33, Try.ntmps33
  go_wp2_with (refine wpList_build_known rfl 69 _ rfl (cellsOf ((tab 25).drop 160)) (by kernel_rfl) ?_)
  go_ret
  exact ⟨rfl, rfl⟩

set_option maxHeartbeats 400000 in
theorem list_26 (w : World) :
    Calls Try.prog 34 #[] w fun e w' => e = .returned (.pointer (some ⟨w.heap.size, 0, none⟩)) ∧ w' = w.alloc (.cells (cellsOf ((tab 26).drop 160)) 69) := by
  go_enter Try.func34, Try.ntmps34
  go_wp2_with (refine wpList_build_known rfl 69 _ rfl (cellsOf ((tab 26).drop 160)) (by kernel_rfl) ?_)
  go_ret
  exact ⟨rfl, rfl⟩

set_option maxHeartbeats 400000 in
theorem list_27 (w : World) :
    Calls Try.prog 35 #[] w fun e w' => e = .returned (.pointer (some ⟨w.heap.size, 0, none⟩)) ∧ w' = w.alloc (.cells (cellsOf ((tab 27).drop 160)) 69) := by
  go_enter Try.func35, Try.ntmps35
  go_wp2_with (refine wpList_build_known rfl 69 _ rfl (cellsOf ((tab 27).drop 160)) (by kernel_rfl) ?_)
  go_ret
  exact ⟨rfl, rfl⟩

set_option maxHeartbeats 400000 in
theorem list_28 (w : World) :
    Calls Try.prog 36 #[] w fun e w' => e = .returned (.pointer (some ⟨w.heap.size, 0, none⟩)) ∧ w' = w.alloc (.cells (cellsOf ((tab 28).drop 160)) 69) := by
  go_enter Try.func36, Try.ntmps36
  go_wp2_with (refine wpList_build_known rfl 69 _ rfl (cellsOf ((tab 28).drop 160)) (by kernel_rfl) ?_)
  go_ret
  exact ⟨rfl, rfl⟩

set_option maxHeartbeats 400000 in
theorem list_29 (w : World) :
    Calls Try.prog 37 #[] w fun e w' => e = .returned (.pointer (some ⟨w.heap.size, 0, none⟩)) ∧ w' = w.alloc (.cells (cellsOf ((tab 29).drop 160)) 69) := by
  go_enter Try.func37, Try.ntmps37
  go_wp2_with (refine wpList_build_known rfl 69 _ rfl (cellsOf ((tab 29).drop 160)) (by kernel_rfl) ?_)
  go_ret
  exact ⟨rfl, rfl⟩

set_option maxHeartbeats 400000 in
theorem list_30 (w : World) :
    Calls Try.prog 38 #[] w fun e w' => e = .returned (.pointer (some ⟨w.heap.size, 0, none⟩)) ∧ w' = w.alloc (.cells (cellsOf ((tab 30).drop 160)) 69) := by
  go_enter Try.func38, Try.ntmps38
  go_wp2_with (refine wpList_build_known rfl 69 _ rfl (cellsOf ((tab 30).drop 160)) (by kernel_rfl) ?_)
  go_ret
  exact ⟨rfl, rfl⟩

set_option maxHeartbeats 400000 in
theorem list_31 (w : World) :
    Calls Try.prog 39 #[] w fun e w' => e = .returned (.pointer (some ⟨w.heap.size, 0, none⟩)) ∧ w' = w.alloc (.cells (cellsOf ((tab 31).drop 160)) 69) := by
  go_enter Try.func39, Try.ntmps39
  go_wp2_with (refine wpList_build_known rfl 69 _ rfl (cellsOf ((tab 31).drop 160)) (by kernel_rfl) ?_)
  go_ret
  exact ⟨rfl, rfl⟩

set_option maxHeartbeats 400000 in
theorem list_33 (w : World) :
    Calls Try.prog 40 #[] w fun e w' => e = .returned (.pointer (some ⟨w.heap.size, 0, none⟩)) ∧ w' = w.alloc (.cells (cellsOf ((tab 33).drop 160)) 69) := by
  go_enter Try.func40, Try.ntmps40
  go_wp2_with (refine wpList_build_known rfl 69 _ rfl (cellsOf ((tab 33).drop 160)) (by kernel_rfl) ?_)
  go_ret
  exact ⟨rfl, rfl⟩

set_option maxHeartbeats 400000 in
theorem list_34 (w : World) :
    Calls Try.prog 41 #[] w fun e w' => e = .returned (.pointer (some ⟨w.heap.size, 0, none⟩)) ∧ w' = w.alloc (.cells (cellsOf ((tab 34).drop 160)) 69) := by
  go_enter Try.func41, Try.ntmps41
  go_wp2_with (refine wpList_build_known rfl 69 _ rfl (cellsOf ((tab 34).drop 160)) (by kernel_rfl) ?_)
  go_ret
  exact ⟨rfl, rfl⟩

set_option maxHeartbeats 400000 in
theorem list_35 (w : World) :
    Calls Try.prog 42 #[] w fun e w' => e = .returned (.pointer (some ⟨w.heap.size, 0, none⟩)) ∧ w' = w.alloc (.cells (cellsOf ((tab 35).drop 160)) 69) := by
  go_enter Try.func42, Try.ntmps42
  go_wp2_with (refine wpList_build_known rfl 69 _ rfl (cellsOf ((tab 35).drop 160)) (by kernel_rfl) ?_)
  go_ret
  exact ⟨rfl, rfl⟩

set_option maxHeartbeats 400000 in
theorem list_36 (w : World) :
    Calls Try.prog 43 #[] w fun e w' => e = .returned (.pointer (some ⟨w.heap.size, 0, none⟩)) ∧ w' = w.alloc (.cells (cellsOf ((tab 36).drop 160)) 69) := by
  go_enter Try.func43, Try.ntmps43
  go_wp2_with (refine wpList_build_known rfl 69 _ rfl (cellsOf ((tab 36).drop 160)) (by kernel_rfl) ?_)
  go_ret
  exact ⟨rfl, rfl⟩

def OfSays (w : World) (k : Int) (w' : World) : Prop := Lies w' w.heap.size k ∧ Below w.heap.size w w' ∧ w.heap.size < w'.heap.size
theorem ofSays (w : World) (k : Int) : OfSays w k (w.alloc (.cells (cellsOf ((tab k).drop 160)) 69)) :=
  ⟨heap_alloc_new w _, (Below.refl _ _).alloc (Nat.le_refl _) _, by simp⟩
set_option maxHeartbeats 400000 in
theorem listOf_yes (k : Int) (h : isK k = true) (w : World) :
    Calls Try.prog 23 #[.int .i64 k] w fun e w' => e = .returned (.pointer (some ⟨w.heap.size, 0, none⟩)) ∧ OfSays w k w' := by
  rcases (isK_iff k).1 h with rfl | rfl | rfl | rfl | rfl | rfl | rfl | rfl | rfl | rfl | rfl | rfl | rfl | rfl | rfl

  · go_enter Try.func23, Try.ntmps23
    go_wp2_with (go_at_call 29; refine (list_21 _).mono ?_; rintro e w' ⟨rfl, rfl⟩)
    go_ret
    exact ⟨rfl, ofSays w 21⟩
  · go_enter Try.func23, Try.ntmps23
    go_wp2_with (go_at_call 30; refine (list_22 _).mono ?_; rintro e w' ⟨rfl, rfl⟩)
    go_ret
    exact ⟨rfl, ofSays w 22⟩
  · go_enter Try.func23, Try.ntmps23
    go_wp2_with (go_at_call 31; refine (list_23 _).mono ?_; rintro e w' ⟨rfl, rfl⟩)
    go_ret
    exact ⟨rfl, ofSays w 23⟩
  · go_enter Try.func23, Try.ntmps23
    go_wp2_with (go_at_call 32; refine (list_24 _).mono ?_; rintro e w' ⟨rfl, rfl⟩)
    go_ret
    exact ⟨rfl, ofSays w 24⟩
  · go_enter Try.func23, Try.ntmps23
    go_wp2_with (go_at_call 33; refine (list_25 _).mono ?_; rintro e w' ⟨rfl, rfl⟩)
    go_ret
    exact ⟨rfl, ofSays w 25⟩
  · go_enter Try.func23, Try.ntmps23
    go_wp2_with (go_at_call 34; refine (list_26 _).mono ?_; rintro e w' ⟨rfl, rfl⟩)
    go_ret
    exact ⟨rfl, ofSays w 26⟩
  · go_enter Try.func23, Try.ntmps23
    go_wp2_with (go_at_call 35; refine (list_27 _).mono ?_; rintro e w' ⟨rfl, rfl⟩)
    go_ret
    exact ⟨rfl, ofSays w 27⟩
  · go_enter Try.func23, Try.ntmps23
    go_wp2_with (go_at_call 36; refine (list_28 _).mono ?_; rintro e w' ⟨rfl, rfl⟩)
    go_ret
    exact ⟨rfl, ofSays w 28⟩
  · go_enter Try.func23, Try.ntmps23
    go_wp2_with (go_at_call 37; refine (list_29 _).mono ?_; rintro e w' ⟨rfl, rfl⟩)
    go_ret
    exact ⟨rfl, ofSays w 29⟩
  · go_enter Try.func23, Try.ntmps23
    go_wp2_with (go_at_call 38; refine (list_30 _).mono ?_; rintro e w' ⟨rfl, rfl⟩)
    go_ret
    exact ⟨rfl, ofSays w 30⟩
  · go_enter Try.func23, Try.ntmps23
    go_wp2_with (go_at_call 39; refine (list_31 _).mono ?_; rintro e w' ⟨rfl, rfl⟩)
    go_ret
    exact ⟨rfl, ofSays w 31⟩
  · go_enter Try.func23, Try.ntmps23
    go_wp2_with (go_at_call 40; refine (list_33 _).mono ?_; rintro e w' ⟨rfl, rfl⟩)
    go_ret
    exact ⟨rfl, ofSays w 33⟩
  · go_enter Try.func23, Try.ntmps23
    go_wp2_with (go_at_call 41; refine (list_34 _).mono ?_; rintro e w' ⟨rfl, rfl⟩)
    go_ret
    exact ⟨rfl, ofSays w 34⟩
  · go_enter Try.func23, Try.ntmps23
    go_wp2_with (go_at_call 42; refine (list_35 _).mono ?_; rintro e w' ⟨rfl, rfl⟩)
    go_ret
    exact ⟨rfl, ofSays w 35⟩
  · go_enter Try.func23, Try.ntmps23
    go_wp2_with (go_at_call 43; refine (list_36 _).mono ?_; rintro e w' ⟨rfl, rfl⟩)
    go_ret
    exact ⟨rfl, ofSays w 36⟩
set_option maxHeartbeats 400000 in
theorem listOf_no (k : Int) (h : isK k = false) (w : World) :
    Calls Try.prog 23 #[.int .i64 k] w fun e w' => e = .returned (.pointer none) ∧ w = w' := by
  have hne := isK_no k h
  clear h
  go_enter Try.func23, Try.ntmps23
  go_wp2_with fail
  go_ret
  exact ⟨rfl, rfl⟩
end Go.Proofs.Ytageajpchmgehaa
