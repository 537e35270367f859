/- The walks of the layer dos: a byte's scalar and a scalar's byte. -/
import Derived.Test.YtaopfjnmgbdkiaaV
namespace Go.Proofs.Ytaopfjnmgbdkiaa
open Go.RowKit

set_option maxRecDepth 100000
set_option maxHeartbeats 400000 in
theorem scalar_any (k : Int) (b : Nat) (w : World) (hb : b < 256) :
    Calls Try.prog 11 #[.int .i64 k, .int .u8 (b : Int)] w fun e w' => e = .returned (.tuple #[.int .i32 (scalV k b), .bool (scalB k b)]) ∧ Below w.heap.size w w' := by
  cases hk : isK k with
  | false =>
    simp only [scalV, scalB, hk, Bool.false_and, Bool.false_eq_true, if_false]
    go_enter Try.func11, Try.ntmps11
    go_wp2_with (go_at_call 23; refine (listOf_no k hk _).mono ?_; rintro e w' ⟨rfl, rfl⟩)
    go_ret2
    exact ⟨rfl, Below.refl _ _⟩
  | true =>
    cases hv : (val k b == 65533) with
    | true =>
      simp only [scalV, scalB, hk, hv, Bool.not_true, Bool.and_false, Bool.false_eq_true, if_false]
      have hv' : val k b = 65533 := by simpa using hv
      go_enter Try.func11, Try.ntmps11
      go_wp2_with fail
      refine (listOf_yes k hk _).mono ?_
      rintro e w1 ⟨rfl, hl, hbl, hs⟩
      go_wp2_with fail
      refine (at_any k _ b _ hk hb hl).mono ?_
      rintro e w' ⟨rfl, rfl⟩
      go_wp2_with fail
      go_ret2
      exact ⟨rfl, hbl⟩
    | false =>
      simp only [scalV, scalB, hk, hv, Bool.not_false, Bool.and_true, if_true]
      go_enter Try.func11, Try.ntmps11
      go_wp2_with fail
      refine (listOf_yes k hk _).mono ?_
      rintro e w1 ⟨rfl, hl, hbl, hs⟩
      go_wp2_with fail
      refine (at_any k _ b _ hk hb hl).mono ?_
      rintro e w' ⟨rfl, rfl⟩
      go_wp2_with fail
      refine (at_any k _ b _ hk hb hl).mono ?_
      rintro e w' ⟨rfl, rfl⟩
      go_wp2_with fail
      go_ret2
      exact ⟨rfl, hbl⟩
end Go.Proofs.Ytaopfjnmgbdkiaa
