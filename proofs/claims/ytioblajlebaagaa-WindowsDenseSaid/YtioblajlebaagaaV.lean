/- The walks of the layer windows: a byte's scalar, a scalar's byte, a kind's list. -/
import Derived.Test.YtioblajlebaagaaW
namespace Go.Proofs.Ytioblajlebaagaa
open Go.RowKit

set_option maxRecDepth 100000
set_option maxHeartbeats 400000 in
theorem at_any (k : Int) (b i : Nat) (w : World) (hk : isK k = true) (hi : i < 256) (hl : Lies w b k) :
    Calls Try.prog 24 #[.pointer (some ⟨b, 0, none⟩), .int .i64 (i : Int)] w fun e w' => e = .returned (.int .i32 (val k i)) ∧ w = w' := by
  obtain ⟨hv0, hv1⟩ := tab_bd k hk i hi
  by_cases h0 : i < 128
  · have hv : val k i = (i : Int) := val_low k hk i h0
    clear hl
    rw [hv]
    clear hv hv0 hv1
    go_enter Try.func24, Try.ntmps24
    go_wp2
    go_ret
    exact ⟨rfl, rfl⟩
  · have hc := lies_cell hl hk (by omega) hi
    clear hl
    obtain ⟨j, rfl⟩ : ∃ j, i = j + 128 := ⟨i - 128, by omega⟩
    simp only [Nat.add_sub_cancel] at hc
    have hj : j < 128 := by omega
    go_enter Try.func24, Try.ntmps24
    go_wp2
    go_ret
    exact ⟨rfl, rfl⟩

theorem has_any (k : Int) (w : World) :
    Calls Try.prog 15 #[.int .i64 k] w fun e w' => e = .returned (.bool (isK k)) ∧ Below w.heap.size w w' := by
  cases h : isK k with
  | false =>
    go_enter Try.func15, Try.ntmps15
    go_wp2_with (go_at_call 23; refine (listOf_no k h _).mono ?_; rintro e w' ⟨rfl, rfl⟩)
    go_ret
    exact ⟨rfl, Below.refl _ _⟩
  | true =>
    go_enter Try.func15, Try.ntmps15
    go_wp2_with (go_at_call 23; refine (listOf_yes k h _).mono ?_; rintro e w1 ⟨rfl, hl, hb, hs⟩)
    go_ret
    exact ⟨rfl, hb⟩
end Go.Proofs.Ytioblajlebaagaa
