/- The walks of the layer dos: a kind's list as a new slice. -/
import Derived.Test.YtaopfjnmgbdkiaaB
namespace Go.Proofs.Ytaopfjnmgbdkiaa
open Go.RowKit

theorem Try.info32 : (Try.prog.info? 21).map (fun i => (i.zero, i.size, i.bytes)) = some (some (.int .i32 0), 1, 4) := by kernel_rfl
/-- the first n of a kind's list, as cells -/
def rowV (k : Int) (n : Nat) : List Value := (List.range n).map fun j => Value.int .i32 (val k j)
theorem rowV_succ (k : Int) (n : Nat) : rowV k (n + 1) = rowV k n ++ [.int .i32 (val k n)] := by simp [rowV, List.range_succ]
def FlatRel (w wr : World) (k : Int) (v : Value) (n : Nat) : Prop := wr.ownsRow (w.heap.size + 1) 21 1 v n (rowV k n) ∧ Below w.heap.size w wr ∧ Lies wr w.heap.size k
theorem flatRel_start {w w1 : World} {k : Int} (h : OfSays w k w1) : FlatRel w w1 k (.slice none 0 0) 0 := ⟨World.ownsRow_nil _ _ _ _, h.2.1, h.1⟩
theorem flatRel_next {w wr w1 : World} {k : Int} {v v' : Value} {n : Nat} {o : Obj} (h : FlatRel w wr k v n) (ho : w1.ownsRow (w.heap.size + 1) 21 1 v' (n + 1) (rowV k n ++ [.int .i32 (val k n)]))
    (hg : (wr.alloc o).grownBy w1 v.ownBlock) : FlatRel w w1 k v' (n + 1) := by
  have hlt := lies_lt h.2.2
  have hne : ∀ j, some j = v.ownBlock → w.heap.size + 1 ≤ j := fun j hj => (h.1.lt j hj.symm).1
  refine ⟨by rw [rowV_succ]; exact ho, (h.2.1.alloc (by omega) o).grown hg (by simp; omega) (fun j hj => by have := hne j hj.symm; omega), ?_⟩
  have hb : w1.heap[w.heap.size]? = (wr.alloc o).heap[w.heap.size]? := hg.block w.heap.size (by simp; omega) (fun e => by have := hne _ e; omega)
  exact (hb.trans (Below.heap_alloc wr o _ hlt)).trans h.2.2
/-- what a kind's list comes to: nil for none, else a row of its own -/
def FlatSays (w : World) (k : Int) (v : Value) (w' : World) : Prop :=
  Below w.heap.size w w' ∧ (isK k = false → v = .slice none 0 0) ∧ (isK k = true → w'.ownsRow w.heap.size 21 1 v 256 (rowV k 256))
theorem ownsRow_base {w : World} {base base' : Nat} {e : TypeId} {size : Nat} {v : Value} {n : Nat} {xs : List Value} (h : w.ownsRow base e size v n xs) (hb : base' ≤ base) : w.ownsRow base' e size v n xs :=
  ⟨h.1, h.2.imp id fun ⟨g, cap, cur, a, b, c⟩ => ⟨g, cap, cur, a, Nat.le_trans hb b, c⟩⟩
theorem flatRel_end {w wr : World} {k : Int} {v : Value} (hk : isK k = true) (h : FlatRel w wr k v 256) : FlatSays w k v wr :=
  ⟨h.2.1, fun h' => by simp [hk] at h', fun _ => ownsRow_base h.1 (by omega)⟩

set_option maxRecDepth 100000
set_option maxHeartbeats 400000 in
theorem flat_any (k : Int) (w : World) :
    Calls Try.prog 8 #[.int .i64 k] w fun e w' => ∃ v, e = .returned v ∧ FlatSays w k v w' := by
  obtain ⟨i0, hi, hz0, hz1, hz2⟩ := info_parts Try.info32
  cases hk : isK k with
  | false =>
    go_enter Try.func8, Try.ntmps8
    go_wp2_with (go_at_call 23; refine (listOf_no k hk _).mono ?_; rintro e w' ⟨rfl, rfl⟩)
    go_ret
    exact ⟨_, rfl, Below.refl _ _, fun _ => rfl, fun h => by simp [hk] at h⟩
  | true =>
    go_enter Try.func8, Try.ntmps8
    go_wp2_with (go_at_call 23; refine (listOf_yes k hk _).mono ?_; rintro e w1 ⟨rfl, hs⟩)
    go_loopw [4, 10] (fun v i wr => ∃ n : Nat, n ≤ 256 ∧ i = .int .i64 n ∧ FlatRel w wr k v n) (fun _ i _ => 256 - (intOf i).toNat)
    case atStart => exact ⟨0, by omega, rfl, flatRel_start hs⟩
    case round =>
      obtain ⟨n, hn, rfl, hr⟩ := hrel
      clear hs
      by_cases hlt : n < 256
      · go_wp2_with fail
        refine (at_any k _ n _ hk hlt hr.2.2).mono ?_
        rintro e w' ⟨rfl, rfl⟩
        go_wp2_with ((at_builtin; refine wpList_append_own _ rfl _ _ 22 rfl (w.heap.size + 1) 21 i0 (.int .i32 0) 1 4 Try.underlying22 hi hz0 hz1 hz2 rfl (by decide) _ _ _ rfl (hr.1.alloc _) ⟨wr.heap.size, 0, none⟩ 1 1 [.int .i32 (val k n)] rfl rfl ?c1 ?c2 ?c3 ?c4 ?c5 ?_))
        case c1 => exact cell_one_new wr _ _
        case c2 => intro u hu; simp at hu; subst hu; rfl
        case c3 => unfold maxLen; omega
        case c4 => omega
        case c5 => have := lies_lt hr.2.2; simp; omega
        intro v' w1 hown' hgrow _
        have R := flatRel_next hr hown' hgrow
        clear hown' hgrow hr
        go_wp2_with fail
        go_roundw
        case rel => exact ⟨n + 1, by omega, by go_num, R⟩
        case measure => simp [intOf]; omega
      · obtain rfl : n = 256 := by omega
        go_wp2_with fail
        go_ret
        exact ⟨_, rfl, flatRel_end hk hr⟩
end Go.Proofs.Ytaopfjnmgbdkiaa
