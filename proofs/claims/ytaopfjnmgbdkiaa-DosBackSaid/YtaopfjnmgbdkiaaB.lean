/- The walks of the layer dos: a scalar's byte. -/
import Derived.Test.YtaopfjnmgbdkiaaS
namespace Go.Proofs.Ytaopfjnmgbdkiaa
open Go.RowKit

/-- of the search for u from byte i on -/
def Rest (k u : Int) (i : Nat) : Prop := fndF k u (256 - i) i = fnd k u
theorem rest_start {k u : Int} (hk : isK k = true) (hu : u ≠ 65533) : Rest k u 0 := (fnd_eq hk hu).symm
theorem rest_hit {k u : Int} {i : Nat} (hi : i < 256) (h : Rest k u i) (hv : val k i = u) : byteV k u = (i : Int) ∧ byteB k u = true := by
  unfold Rest at h
  obtain ⟨n, hn⟩ : ∃ n, 256 - i = n + 1 := ⟨255 - i, by omega⟩
  rw [hn, fndF_hit hv] at h
  exact byte_some h.symm
theorem rest_miss {k u : Int} {i : Nat} (hi : i < 256) (h : Rest k u i) (hv : val k i ≠ u) : Rest k u (i + 1) := by
  unfold Rest at h ⊢
  obtain ⟨n, hn⟩ : ∃ n, 256 - i = n + 1 := ⟨255 - i, by omega⟩
  rw [hn, fndF_miss hv] at h
  rw [show 256 - (i + 1) = n by omega]
  exact h
theorem rest_end {k u : Int} {i : Nat} (hi : ¬ i < 256) (h : Rest k u i) : byteV k u = 0 ∧ byteB k u = false := by
  unfold Rest at h
  rw [show 256 - i = 0 by omega] at h
  exact byte_none h.symm
theorem no_kind {k u : Int} (h : isK k = false) : byteV k u = 0 ∧ byteB k u = false := byte_none (fnd_none (.inl h))
theorem no_scalar {k : Int} : byteV k 65533 = 0 ∧ byteB k 65533 = false := byte_none (fnd_none (.inr rfl))

theorem pair_u8 {a c : Int} {b d : Bool} (h : a = c ∧ b = d) : Ending.returned (.tuple #[.int .u8 c, .bool d]) = .returned (.tuple #[.int .u8 a, .bool b]) := by rw [h.1, h.2]
set_option maxRecDepth 100000
set_option maxHeartbeats 400000 in
theorem byte_any (k u : Int) (w : World) :
    Calls Try.prog 13 #[.int .i64 k, .int .i32 u] w fun e w' => e = .returned (.tuple #[.int .u8 (byteV k u), .bool (byteB k u)]) ∧ Below w.heap.size w w' := by
  cases hk : isK k with
  | false =>
    rw [(no_kind hk).1, (no_kind hk).2]
    go_enter Try.func13, Try.ntmps13
    go_wp2_with (go_at_call 23; refine (listOf_no k hk _).mono ?_; rintro e w' ⟨rfl, rfl⟩)
    go_ret2
    exact ⟨rfl, Below.refl _ _⟩
  | true =>
    cases hu : (u == 65533) with
    | true =>
      obtain rfl : u = 65533 := by simpa using hu
      rw [no_scalar.1, no_scalar.2]
      go_enter Try.func13, Try.ntmps13
      go_wp2_with (go_at_call 23; refine (listOf_yes k hk _).mono ?_; rintro e w1 ⟨rfl, hl, hb, hs⟩)
      go_ret2
      exact ⟨rfl, hb⟩
    | false =>
      go_enter Try.func13, Try.ntmps13
      go_wp2_with (go_at_call 23; refine (listOf_yes k hk _).mono ?_; rintro e w1 ⟨rfl, hl, hb, hs⟩)
      go_loop [16] (fun i => ∃ n : Nat, n ≤ 256 ∧ i = .int .i64 n ∧ Rest k u n) (fun i => 256 - (intOf i).toNat)
      case atStart => exact ⟨0, by omega, rfl, rest_start hk (by simpa using hu)⟩
      case round =>
        obtain ⟨n, hn, rfl, hr⟩ := hrel
        by_cases hlt : n < 256
        · cases hv : (val k n == u) with
          | true =>
            go_wp2_with fail
            refine (at_any k _ n _ hk hlt hl).mono ?_
            rintro e w' ⟨rfl, rfl⟩
            go_wp2_with fail
            go_ret2
            exact ⟨pair_u8 (rest_hit hlt hr (by simpa using hv)), hb⟩
          | false =>
            have hr' := rest_miss hlt hr (by simpa using hv)
            go_wp2_with fail
            refine (at_any k _ n _ hk hlt hl).mono ?_
            rintro e w' ⟨rfl, rfl⟩
            go_wp2_with fail
            go_round
            case rel => exact ⟨n + 1, by omega, by go_num, hr'⟩
            case measure => simp [intOf]; omega
        · go_wp2_with fail
          go_ret2
          exact ⟨pair_u8 (rest_end hlt hr), hb⟩
end Go.Proofs.Ytaopfjnmgbdkiaa
